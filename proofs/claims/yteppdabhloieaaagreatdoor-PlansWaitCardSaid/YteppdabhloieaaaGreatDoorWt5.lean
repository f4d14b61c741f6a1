/- Contract of the document's covered. Conditions: patterns that are right. -/
import Derived.Test.YteppdabhloieaaaGreatDoorBun7
import Derived.Test.YteppdabhloieaaaGreatDoorBun3
import Derived.Test.YteppdabhloieaaaGreatDoorBun9
import Derived.Deep.CutBlock
namespace Go.Proofs.YteppdabhloieaaaGreatDoor
open Go.RowKit
theorem Reads.apart {w w' : World} {lo size n c : Nat} {A : Option Addr} {xs : List Value} {row : Option Nat} (h : Reads w lo size A n c xs) (hg : w.grownBy w' row) (hne : 0 < n → ∀ g, row = some g → blkOf A ≠ some g) : Reads w' lo size A n c xs :=
 ⟨h.1, h.2.1, fun hn => by
   obtain ⟨g, o, rfl, hl, hb, hc⟩ := h.2.2 hn
   have he : w'.heap[g]? = w.heap[g]? := hg.block g hb (fun e => hne hn g e.symm rfl)
   exact ⟨g, o, rfl, hl, by have := hg.size; omega, fun j u hu => (World.cell?_of_block he).trans (hc j u hu)⟩⟩
theorem ShOk.apart {w w' : World} {p : ShV} {row : Option Nat} (h : ShOk w 0 p) (hg : w.grownBy w' row) (hne : 0 < p.n → ∀ g, row = some g → blkOf p.A ≠ some g) : ShOk w' 0 p := ⟨Reads.apart h.st hg hne, h.n, h.rt⟩
theorem ShOk.blk {w : World} {lo : Nat} {p : ShV} (h : ShOk w lo p) (hn : 0 < p.n) : ∃ g, blkOf p.A = some g ∧ lo ≤ g ∧ g < w.heap.size := by
 obtain ⟨g, o, e, h1, h2, _⟩ := h.st.2.2 hn
 exact ⟨g, by rw [e]; rfl, h1, h2⟩
theorem Tryz.shsT : ElemT Tryz.prog 190 109 2 32 (.agg #[.slice none 0 0, .int .u8 0]) := elemT_of Tryz.underlying190 (by kernel_rfl) rfl (by decide)
theorem i64_or (a k : Nat) (ha : a < 1099511627776) (hk : k < 40) : bits .or .i64 (a : Int) (IntKind.i64.wrap ((2 : Int) ^ k)) = ((a ||| 2 ^ k : Nat) : Int) := by
 have hp : 2 ^ k < 2 ^ 40 := Nat.pow_lt_pow_right (by omega) hk
 have e : (2 : Int) ^ k = ((2 ^ k : Nat) : Int) := by rw [Int.natCast_pow]; rfl
 have hx : a ||| 2 ^ k < 2 ^ 40 := Nat.or_lt_two_pow (show a < 2 ^ 40 from ha) hp
 rw [e]
 generalize 2 ^ k = y at *
 have hw : IntKind.i64.wrap (y : Int) = y := by rw [IntKind.wrap_i64]; omega
 rw [hw]
 show IntKind.i64.wrap ((BitVec.ofInt 64 (a : Int) ||| BitVec.ofInt 64 (y : Int)).toNat : Int) = _
 rw [BitVec.toNat_or, bv64 a (by omega), bv64 y (by omega), IntKind.wrap_i64]
 omega
theorem pow_fulli {m : Nat} (hm : m ≤ 12) : wrap64 (wrap64 ((2 : Int) ^ m) - 1) = ((2 ^ m - 1 : Nat) : Int) := by
 have h1 : 2 ^ m ≤ 4096 := Nat.pow_le_pow_right (n := 2) (by omega) hm
 have h2 : 0 < 2 ^ m := pow_pos' m
 have e : (2 : Int) ^ m = ((2 ^ m : Nat) : Int) := by rw [Int.natCast_pow]; rfl
 rw [e]
 unfold wrap64
 omega
theorem wrap64_i (x : Int) : wrap64 x = IntKind.i64.wrap x := by rw [IntKind.wrap_i64]; unfold wrap64; omega
theorem kpTo_or {l : List (List Nat × Nat)} {a i s k : Nat} (h : (s.testBit k && tkB l a i k) = true) : kpTo l a i s (k + 1) = kpTo l a i s k ||| 2 ^ k := by
 show _ ||| (if _ then _ else _) = _
 rw [if_pos h]
theorem kpTo_no {l : List (List Nat × Nat)} {a i s k : Nat} (h : (s.testBit k && tkB l a i k) = false) : kpTo l a i s (k + 1) = kpTo l a i s k := by
 show _ ||| (if _ then _ else _) = _
 rw [if_neg (by rw [h]; decide), Nat.or_zero]
theorem setAt_bd (x : List Nat × Nat) (i : Nat) : (setAtL x i).length ≤ 12 ∧ ∀ b ∈ setAtL x i, b < 256 := by
 refine ⟨?_, fun b hb => sgn_lt (setAt_sgn hb)⟩
 unfold setAtL
 split
 · unfold setStr; exact Nat.le_trans (List.length_filter_le _ _) (by decide)
 · decide
theorem sg12 {c : Nat} (h : c ∈ sgn) : sgIx c < 12 := by
 have : ∀ c ∈ sgn, sgIx c < 12 := by decide +kernel
 exact this c h
set_option maxRecDepth 100000 in
set_option maxHeartbeats 32000000 in
theorem coveredD_any (lo : Nat) (p : ByteArray) (x : List Nat × Nat) (A : Option Addr) (n c : Nat) (os : List ByteArray) (w : World) (hp : patX (nb p) = some x) (h : Recs srow 1 w lo A n c os) (hos : ∀ o ∈ os, ∃ y, patX (nb o) = some y) (hn : n ≤ 12) :
   Calls Tryz.prog 72 #[.string p, .slice A n c] w (RetV (.bool (covB x (os.map shS))) w) := by
 have HPX := Lib.hid hp; have H := Lib.hid h; have HOS := Lib.hid hos
 have HLN := Lib.hid (show os.length = n from h.2)
 have HR := Lib.hid (patX_right hp)
 have hp12 : 2 ^ n ≤ 4096 := Nat.pow_le_pow_right (n := 2) (by omega) hn
 have hmm := @run_makeMap Tryz.prog
 clear hp h hos
 go_enter Tryz.func72, Tryz.ntmps72
 go_wp2_with fail
 refine (shape_ok p x _ HPX.out).mono ?_
 rintro e w1 ⟨v1, rfl, ⟨sA, sn, sc, rfl, hst, hsn⟩, hg1⟩
 have hsl := hst.len
 obtain ⟨S, t⟩ := x
 dsimp only at hst hsl
 obtain ⟨wb, hwb⟩ : ∃ wb, w1.alloc (.cells #[.slice sA sn sc, .int .u8 t] 109) = wb := ⟨_, rfl⟩
 obtain ⟨xb, hxb⟩ : ∃ xb, w1.heap.size = xb := ⟨_, rfl⟩
 have hgb : w1.grownBy wb none := by rw [← hwb]; exact gr_alloc (gr_refl _ _) _
 have HB0 := Lib.hid (show Blk wb xb 109 #[.slice sA sn sc, .int .u8 t] by rw [← hwb, ← hxb]; exact Blk.new _ _ _)
 have HG0 := Lib.hid (gr_none hg1 hgb)
 have HST := Lib.hid (show Strs wb 0 sA sn sc S from (Reads.lower hst (Nat.zero_le _)).grown hgb gn_)
 have HSL := Lib.hid hsl
 have HWB := Lib.hid hwb; have HXB := Lib.hid hxb
 clear hst hsl hwb hxb hgb hg1
 go_upto_region 2 with (fail)
 rw [HWB.out, HXB.out]
 clear HWB HXB
 obtain ⟨lo1, hlo1⟩ : ∃ lo1, wb.heap.size = lo1 := ⟨_, rfl⟩
 have HLO := Lib.hid hlo1
 clear hlo1
 go_wp2_with fail
 go_loopw [7, 9, 10, 11, 29] (fun v7 _ _ _ t29 wr => ∃ (k : Nat) (B : Option Addr) (d : Nat) (ps : List ShV), k ≤ n ∧ t29 = .int .i64 k ∧ v7 = .slice B k d ∧ wb.grownBy wr none ∧ OwnR shRow 2 wr lo1 109 B k d ps ∧ (∀ p ∈ ps, ShOk wr 0 p) ∧ (∀ p ∈ ps, 0 < p.n → blkOf p.A ≠ blkOf B) ∧ shsX ps = (os.take k).map shS) (fun _ _ _ _ t29 _ => n - (intOf t29).toNat)
 case atStart => exact ⟨0, none, 0, [], Nat.zero_le _, rfl, rfl, gr_refl _ _, OwnR.nil _ _ _, (fun p hp => by cases hp), (fun p hp => by cases hp), rfl⟩
 case round =>
   obtain ⟨k, B, d, ps, hk, rfl, rfl, hg, hob, hok, hsep, hmap⟩ := hrel
   have HG := Lib.hid hg; have HOB := Lib.hid hob; have HOK := Lib.hid hok; have HSEP := Lib.hid hsep; have HMAP := Lib.hid hmap
   clear hg hob hok hsep hmap
   by_cases hlt : k < n
   · obtain ⟨g, o, s, rfl, _, hgl, hz, hc⟩ := (H.out.grown (gr_none HG0.out HG.out) gn_).get srow_len hlt
     obtain ⟨y, hy⟩ := HOS.out s (mem_of_get hz)
     have HY := Lib.hid hy
     have HTK := Lib.hid (take_snoc' hz)
     have kx := hc 0 _ rfl
     simp only [Nat.mul_one, Nat.add_zero] at kx
     clear hz hc hy
     go_wp2_with fail
     refine (shape_ok s y _ HY.out).mono ?_
     rintro e w3 ⟨v3, rfl, ⟨yA, yn, yc, rfl, hyt, hyn⟩, hg3⟩
     have HYT := Lib.hid hyt
     have HG3 := Lib.hid hg3
     have z3 := hg3.size
     have zlo : lo1 ≤ wr.heap.size := by have := HG.out.size; have := HLO.out; omega
     clear hyt hg3 kx
     go_wp2_with (first
       | (refine wpl_load_all Tryz.shT2 rfl _ rfl _ rfl _ _ (Blk.new w3 _ _) rfl ?_)
       | (at_builtin
          refine wpl_app _ rfl _ _ Tryz.shsT rfl lo1 B k d _ rfl (by exact ((HOB.out.low HG3.out gn_).1.alloc _).alloc _) _ _ 1 1 [.slice yA yn yc, .int .u8 y.2] rfl (by exact reads_at _ _ [.slice yA yn yc, .int .u8 y.2] 2 rfl (by simp)) (by simp [Value.oneCell']) (by unfold maxLen; omega) (by omega) (by simp; omega) ?_
          intro A9 c9 w9 h9
          have H9 := Lib.hid h9; clear h9)
       | fail)
     obtain ⟨w4, hw4⟩ : ∃ w4, (w3.alloc (.cells #[.slice yA yn yc, .int .u8 y.2] 109)).alloc (.cells #[.slice yA yn yc, .int .u8 y.2] 109) = w4 := ⟨_, rfl⟩
     have hg4 : w3.grownBy w4 none := by rw [← hw4]; exact gr_alloc (gr_alloc (gr_refl _ _) _) _
     rw [hw4] at H9
     have hob4 := (HOB.out.low HG3.out gn_).low hg4 gn_
     have z4 := hg4.size
     have HGW := Lib.hid (gr_none (gr_none HG.out HG3.out) hg4)
     have hG9 : wb.grownBy w9 none := gr_trans HGW.out H9.out.2.1 (fun g e => .inr (by have := (hob4.1.lt e).1; have := HLO.out; omega))
     have hyk : ShOk w4 wr.heap.size ⟨yA, yn, yc, y⟩ := ⟨HYT.out.grown hg4 gn_, hyn, patX_right HY.out⟩
     have hBl : ∀ g, blkOf B = some g → g < wr.heap.size := fun g e => (HOB.out.1.lt e).2
     go_roundw
     case rel =>
       refine ⟨k + 1, A9, c9, ps ++ [⟨yA, yn, yc, y⟩], by omega, by go_num, rfl, hG9, hob4.app (a := ⟨yA, yn, yc, y⟩) rfl H9.out, fun q hq => ?_, fun q hq hqn => ?_, ?_⟩
       · rcases List.mem_append.1 hq with h1 | h1
         · exact ((((HOK.out q h1).grown HG3.out gn_).grown hg4 gn_)).apart H9.out.2.1 (fun h0 g e => by rw [← e]; exact HSEP.out q h1 h0)
         · rw [List.mem_singleton.1 h1]
           refine ShOk.apart ⟨Reads.lower hyk.st (Nat.zero_le _), hyk.n, hyk.rt⟩ H9.out.2.1 (fun h0 g e e2 => ?_)
           obtain ⟨g', e3, h3, _⟩ := hyk.blk h0
           dsimp only at e2
           rw [e2] at e3
           have := hBl g e
           injection e3 with e3; omega
       · rcases List.mem_append.1 hq with h1 | h1
         · obtain ⟨g', e3, _, h3⟩ := (HOK.out q h1).blk hqn
           rw [e3]
           intro e4
           rcases H9.out.2.2 g' e4.symm with h5 | h5
           · exact HSEP.out q h1 hqn (by rw [e3, h5])
           · omega
         · rw [List.mem_singleton.1 h1] at hqn ⊢
           obtain ⟨g', e3, h3, h4⟩ := hyk.blk hqn
           dsimp only at e3 ⊢
           rw [e3]
           intro e4
           rcases H9.out.2.2 g' e4.symm with h5 | h5
           · have := hBl g' h5; omega
           · omega
       · unfold shsX at *
         rw [List.map_append, HTK.out, List.map_append, HMAP.out]
         simp [shS_some HY.out]
     case measure => simp [intOf]; omega
   · obtain rfl : k = n := by omega
     obtain ⟨wq, rfl⟩ : ∃ wq : World, wq = wr := ⟨_, rfl⟩
     obtain ⟨l, hl⟩ : ∃ l, shsX ps = l := ⟨_, rfl⟩
     have HL := Lib.hid hl
     have HOSL := Lib.hid (show os.map shS = l by rw [← hl, HMAP.out, List.take_of_length_le (by rw [HLN.out]; exact Nat.le_refl _)])
     have HLL := Lib.hid (show l.length = k by rw [← hl, shsX_len, HOB.out.2])
     have HPS := Lib.hid (show Shps wq lo1 0 B k d ps from ⟨HOB.out.recs, HOK.out⟩)
     have HGQ := Lib.hid (gr_none HG0.out HG.out)
     have HBX := Lib.hid (HB0.out.grown HG.out (by simp))
     have HSX := Lib.hid (HST.out.grown HG.out gn_)
     clear hl HOB HOK HSEP HMAP HG
     have hx13 : wrap64 (wrap64 ((2 : Int) ^ k) - 1) = ((2 ^ k - 1 : Nat) : Int) := pow_fulli (by omega)
     obtain ⟨mb, hmb⟩ : ∃ mb, wq.heap.size = mb := ⟨_, rfl⟩
     have HM0 := Lib.hid (SetP.new KI wq)
     have HMB := Lib.hid hmb
     clear hmb
     have hok0 : KI.ok ((2 ^ k - 1 : Nat) : Int) := ik_ok (by omega) (by omega)
     have HOK0 := Lib.hid hok0
     clear hok0
     have dkk : decide ((k : Int) < (k : Int)) = false := decide_eq_false (by omega)
     obtain ⟨wm, hrun0, hm_, hgm_⟩ := MapK.put bool_inj (show MapK KI Value.bool (wq.alloc (.map #[] 0)) wq.heap.size 0 (setF (fun _ => False)) from HM0.out) Tryz.underlying191 (by unfold maxLen; omega) true HOK0.out
     have hrun : (Instr.mapUpdate 191 (.map (some wq.heap.size)) (.int .i64 ((2 ^ k - 1 : Nat) : Int)) (.bool true)).run Tryz.prog (wq.alloc (.map #[] 0)) = .ok () wm := hrun0
     have HM := Lib.hid (show SetP KI wm wq.heap.size 1 (fun k' : Int => k' = ((2 ^ k - 1 : Nat) : Int)) from MapK.fn hm_ fun k' _ => by
       by_cases e : k' = ((2 ^ k - 1 : Nat) : Int)
       · rw [if_pos e]; exact (setF_true (C := fun k' : Int => k' = ((2 ^ k - 1 : Nat) : Int)) e).symm
       · rw [if_neg e, setF_false (fun h => h)]; exact (setF_false (C := fun k' : Int => k' = ((2 ^ k - 1 : Nat) : Int)) e).symm)
     have HGM := Lib.hid hgm_
     clear hrun0 hm_ hgm_
     go_upto_region 10 with (fail)
     clear hrun
     rw [HMB.out] at HM HGM ⊢
     have hgm : wq.grownBy wm none := gr_trans (gr_alloc (gr_refl wq none) _) HGM.out (fun g e => .inr (by injection e with e; have := HMB.out; omega))
     have HLV := Lib.hid (HM.out.iff (C' := lvC (S, t) l 0) (fun k' _ => by rw [lv_zero, HLL.out]))
     have HGL := Lib.hid hgm
     have hov0 : over (S, t) 0 = false := by
       have := patX_many HPX.out
       unfold many at this
       unfold over
       dsimp only at this ⊢
       rw [Bool.and_eq_false_iff]
       by_cases ht0 : t = 0
       · left; rw [if_pos ht0] at this; exact decide_eq_false (by omega)
       · right; exact decide_eq_false ht0
     have HOV := Lib.hid hov0
     have htc : t = 0 ∨ t = 46 ∨ t = 33 := HR.out.1
     clear hgm HM0 HM HGM hx13 hov0
     have hmq : wq.heap.size ≤ mb := by have := HMB.out; omega
     clear dkk hlt
     go_wp2_with fail
     go_loopw [12, 13, 14, 15, 17, 18, 19, 20, 21, 49] (fun v12 _ _ _ _ _ _ _ _ t49 wr => ∃ (i mb cnt : Nat), i ≤ 30 ∧ t49 = .int .i64 i ∧ v12 = .map (some mb) ∧ wq.grownBy wr none ∧ wq.heap.size ≤ mb ∧ SetP KI wr mb cnt (lvC (S, t) l i) ∧ ChkTo (S, t) l i ∧ (i < 30 → over (S, t) i = false)) (fun _ _ _ _ _ _ _ _ _ t49 _ => 30 - (intOf t49).toNat)
     case atStart => exact ⟨0, mb, 1, by omega, rfl, rfl, HGL.out, hmq, HLV.out, ChkTo.zero _ _, fun _ => HOV.out⟩
     case round =>
       clear HGL HLV HOV hmq HMB
       obtain ⟨mb0, rfl⟩ : ∃ m0 : Nat, m0 = mb := ⟨_, rfl⟩
       obtain ⟨i, mb, cnt, hi, rfl, rfl, hg, hmq, hlv, hck, hov⟩ := hrel
       have HGL := Lib.hid hg
       have hlv2 := hlv.tight KI_full ((List.range 4096).map (fun s : Nat => (s : Int))) (fun k' _ hk' => by
         obtain ⟨s', rfl, hr'⟩ := hk'
         have := hr'.bd.2
         rw [HLL.out] at this
         exact List.mem_map.2 ⟨s', List.mem_range.2 (by omega), rfl⟩)
       rw [List.length_map, List.length_range] at hlv2
       have HLV := Lib.hid hlv2
       have HCK := Lib.hid hck
       have zmb := hlv.lt
       have HOV1 := Lib.hid hov
       clear hg hlv hlv2 hck cnt hov
       by_cases h30 : i < 30
       · have d30 : decide ((i : Int) < 30) = true := decide_eq_true (by omega)
         have HOV := Lib.hid (HOV1.out h30)
         clear HOV1
         obtain ⟨nb_, hnb⟩ : ∃ nb_, wr.heap.size = nb_ := ⟨_, rfl⟩
         have hn0 := SetP.new KI wr
         rw [hnb] at hn0
         have HLVa := Lib.hid (HLV.out.kept (gr_alloc (gr_refl wr none) (.map #[] 0)) (by simp))
         have HNB := Lib.hid hnb
         have HN0 := Lib.hid hn0
         clear hnb hn0
         go_wp2_with (first
           | (at_range; refine wpl_krange (K := KI) rfl _ _ rfl Tryz.underlying191 rfl HLVa.out ?_; intro w5 cnt hc5 hr5 hg5 hs5)
           | fail)
         go_frame
         have hz1 : (wr.alloc (.map #[] 0)).heap.size = nb_ + 1 := by rw [← HNB.out]; simp
         rw [hz1] at hr5
         have hgq : wq.grownBy w5 none := gr_none (gr_alloc HGL.out _) hg5
         have HGL5 := Lib.hid hgq
         have HN5 := Lib.hid (HN0.out.kept hg5 (by simp))
         have HRG := Lib.hid hr5
         have hmn : mb < nb_ := by have := HNB.out; omega
         have hqn : wq.heap.size ≤ nb_ := by have := HGL.out.size; have := HNB.out; omega
         (try rw [hz1])
         (try rw [HNB.out])
         clear hgq hr5 hg5 hs5 hz1 HLVa HN0 HGL HLV HNB
         go_loopw [15, 17, 18, 19, 20] (fun _ _ _ _ _ wr => ∃ (Lf : Int → Bool) (cnt cn : Nat), wq.grownBy wr none ∧ RngK KI Value.bool wr mb (nb_ + 1) 4096 (setF (lvC (S, t) l i)) Lf cnt ∧ SetP KI wr nb_ cn (fun k' : Int => ∃ s' c' : Nat, Rch (S, t) l i s' ∧ Lf s' = false ∧ c' ∈ setAtL (S, t) i ∧ k' = (kp l i (sgIx c') s' : Nat)) ∧ cn + 12 * cnt ≤ 49152) (fun _ _ _ _ _ wr => wr.rangeLeft mb (nb_ + 1))
         case atStart =>
           exact ⟨_, cnt, 0, HGL5.out, HRG.out, HN5.out.iff (fun k' _ => ⟨fun h => h.elim, fun ⟨s', c', h1, h2, _⟩ => by
             rw [setF_true (show lvC (S, t) l i s' from ⟨s', rfl, h1⟩)] at h2; cases h2⟩), by omega⟩
         case round =>
           clear HGL5 HN5 HRG hc5 cnt
           obtain ⟨Lf, cnt, cn, hg, hrg, hnx, hcn⟩ := hrel
           have HGL := Lib.hid hg; have HRG := Lib.hid hrg; have HNX := Lib.hid hnx; have HCN := Lib.hid hcn
           have hrl := hrg.left_eq
           have HRL := Lib.hid hrl
           have zrb := hrg.lt
           clear hg hrg hnx hcn hrl
           go_wp2_with (first
             | (at_next; refine wpl_pnext (K := KI) KI_full rfl _ rfl rfl HRG.out ?_ ?_)
             | fail)
           · intro hL0
             have hnx2 : SetP KI wr nb_ cn (lvC (S, t) l (i + 1)) := HNX.out.iff (fun k' _ => by
               rw [lv_succ HR.out HOV.out h30]
               constructor
               · rintro ⟨s', c', h1, _, h3, h4⟩; exact ⟨s', c', h1, h3, h4⟩
               · rintro ⟨s', c', h1, h3, h4⟩
                 have h5 := h1.bd.2
                 rw [HLL.out] at h5
                 exact ⟨s', c', h1, hL0 _ (ik_ok (by omega) (by omega)), h3, h4⟩)
             have HNX2 := Lib.hid hnx2
             clear hnx2 hL0 HNX HRG
             obtain ⟨wz, rfl⟩ : ∃ wz : World, wz = wr := ⟨_, rfl⟩
             have hbx := HBX.out.grown HGL.out (by simp)
             have HBZ := Lib.hid hbx
             clear hbx
             have k0 := HBZ.out.cell 0
             have k1 := HBZ.out.cell 1
             have hsln : S.length = sn := HSL.out
             have HSN := Lib.hid hsln
             clear hsln
             have hE := ends_doc (n := i) HR.out HOV.out
             dsimp only at hE
             rw [HSN.out] at hE
             have HEN := Lib.hid hE
             clear hE
             by_cases h1 : i + 1 < sn
             · have d1 : decide ((i : Int) + 1 < (sn : Int)) = true := decide_eq_true (by omega)
               have HNE := Lib.hid (show (takesL (S, t) (i + 1)).2 = false by rw [HEN.out, decide_eq_true h1]; rfl)
               have hov2 : over (S, t) (i + 1) = false := by unfold over; dsimp only; rw [HSN.out, decide_eq_false (by omega)]; rfl
               go_wp2_with fail
               go_roundw
               case rel => exact ⟨i + 1, nb_, cn, by omega, by go_num, rfl, HGL.out, by omega, HNX2.out, HCK.out.succ (fun s' _ h2 => by rw [HNE.out] at h2; cases h2), fun _ => hov2⟩
               case measure => simp [intOf]; omega
             · have d1 : decide ((i : Int) + 1 < (sn : Int)) = false := decide_eq_false (by omega)
               by_cases h2 : i + 1 = sn
               · have d2 : ((i : Int) + 1 == (sn : Int)) = true := by rw [beq_iff_eq]; omega
                 rcases htc with ht | ht | ht
                 · have hte : (takesL (S, t) (i + 1)).2 = true := by rw [HEN.out, decide_eq_false h1, decide_eq_true h2, ht]; rfl
                   have HT0 := Lib.hid (show (S, t).2 = 0 from ht)
                   have e46 : ((t : Int) == 46) = false := by rw [beq_eq_false_iff_ne]; omega
                   have e0 : ((t : Int) == 0) = true := by rw [beq_iff_eq]; omega
                   clear ht
                   have HTE := Lib.hid hte
                   have HH2 := Lib.hid h2
                   clear hte h2
                   go_wp2_with (first
                     | (at_range; refine wpl_krange (K := KI) rfl _ _ rfl Tryz.underlying191 rfl HNX2.out ?_; intro w5 cnt5 hc5 hr5 hg5 hs5)
                     | fail)
                   (try go_frame)
                   obtain ⟨rb, hrb⟩ : ∃ rb, wz.heap.size = rb := ⟨_, rfl⟩
                   rw [hrb] at hr5
                   (try rw [hrb])
                   have zrb5 : wq.heap.size ≤ rb := by have := HGL.out.size; omega
                   have HGL6 := Lib.hid (gr_none HGL.out hg5)
                   have HRG6 := Lib.hid hr5
                   clear hr5 hg5 hs5 hrb hc5 k0 k1
                   go_loopw [21] (fun _ wr => ∃ (Lf : Int → Bool) (cnt : Nat), wq.grownBy wr none ∧ RngK KI Value.bool wr nb_ rb cn (setF (lvC (S, t) l (i + 1))) Lf cnt ∧ ∀ s' : Nat, Rch (S, t) l (i + 1) s' → Lf s' = false → endB l s' (i + 1) = true) (fun _ wr => wr.rangeLeft nb_ rb)
                   case atStart => exact ⟨_, cnt5, HGL6.out, HRG6.out, fun s' h h2 => by rw [setF_true (show lvC (S, t) l (i + 1) s' from ⟨s', rfl, h⟩)] at h2; cases h2⟩
                   case round =>
                     clear HGL6 HRG6 cnt5 HGL HNX2
                     obtain ⟨Lf2, cnt2, hg, hrg, hen2⟩ := hrel
                     have HGL := Lib.hid hg; have HRG := Lib.hid hrg; have HEN2 := Lib.hid hen2
                     have hrl := hrg.left_eq
                     have HRL := Lib.hid hrl
                     have HRM := Lib.hid hrg.map
                     clear hg hrg hen2 hrl
                     go_wp2_with (first
                       | (at_next; refine wpl_pnext (K := KI) KI_full rfl _ rfl rfl HRG.out ?_ ?_)
                       | fail)
                     · intro hL0
                       have HCK2 := Lib.hid (HCK.out.succ (fun s' hs' _ _ => HEN2.out s' hs' (by
                         have h5 := hs'.bd.2
                         rw [HLL.out] at h5
                         exact hL0 _ (ik_ok (by omega) (by omega)))))
                       have hbx2 := HBX.out.grown HGL.out (by simp)
                       have HBZ2 := Lib.hid hbx2
                       clear hbx2 hL0
                       have k1 := HBZ2.out.cell 1
                       have HV := Lib.hid (covB_true (HCK2.out.over HT0.out (by show S.length ≤ i + 1; rw [HSN.out]; omega)))
                       go_wp2_with fail
                       go_ret
                       exact ⟨by rw [HOSL.out, HV.out]; rfl, gr_none HGQ.out HGL.out⟩
                     · intro x0 w7 cnt7 hok7 hfx hlx hrg7 hlt7 hg7 hs7 hen7
                       obtain ⟨s0, rfl, hr0⟩ := hfx
                       have h5 := hr0.bd.2
                       rw [HLL.out] at h5
                       have hen8 : (Instr.entry (.pointer (some ⟨rb, 0, none⟩))).run Tryz.prog w7 = .ok (.tuple #[.int .i64 (s0 : Int), .bool true]) w7 := hen7
                       have HGL7 := Lib.hid (gr_trans HGL.out hg7 (fun g e => .inr (by injection e with e; omega)))
                       obtain ⟨EB, hEB⟩ : ∃ EB, endB l s0 (i + 1) = EB := ⟨_, rfl⟩
                       have HEB := Lib.hid hEB
                       have HR0 := Lib.hid hr0; have HRG7 := Lib.hid hrg7
                       clear hen7 hg7 hs7 hEB hr0 hrg7 hok7 hlx
                       go_wp2_with fail
                       refine (ended_any lo1 0 B k d ps s0 (i + 1) _ (HPS.out.grown HGL7.out gn_ gn_) (by omega) (by omega) (by omega)).mono ?_
                       rintro e w8 ⟨rfl, hg8⟩
                       rw [HL.out, HEB.out]
                       have HGL8 := Lib.hid (gr_none HGL7.out hg8)
                       have HRG8 := Lib.hid (HRG7.out.kept hg8 (by simp) (by simp))
                       clear hg8 hen8
                       cases EB
                       · have HV := Lib.hid (covB_false HR0.out HTE.out (by omega) HEB.out)
                         go_wp2_with fail
                         go_ret
                         exact ⟨by rw [HOSL.out, HV.out]; rfl, gr_none HGQ.out HGL8.out⟩
                       · go_wp2_with fail
                         go_roundw
                         case rel =>
                           refine ⟨_, cnt7, HGL8.out, HRG8.out, fun s' h h2 => ?_⟩
                           by_cases e : (s' : Int) = (s0 : Int)
                           · obtain rfl : s' = s0 := by omega
                             exact HEB.out
                           · refine HEN2.out s' h ?_
                             simpa [e] using h2
                         case measure => rw [HRG8.out.left_eq, HRL.out]; omega
                 · have HNE := Lib.hid (show (takesL (S, t) (i + 1)).2 = false by rw [HEN.out, decide_eq_true h2, ht]; simp)
                   have hov2 : over (S, t) (i + 1) = false := by unfold over; rw [decide_eq_false (show ¬ t = 0 by omega), Bool.and_false]
                   have HOV2 := Lib.hid hov2
                   have HH2 := Lib.hid h2
                   have e46 : ((t : Int) == 46) = true := by rw [beq_iff_eq]; omega
                   clear ht hov2 h2
                   go_wp2_with fail
                   go_roundw
                   case rel => exact ⟨i + 1, nb_, cn, by omega, by go_num, rfl, HGL.out, by omega, HNX2.out, HCK.out.succ (fun s' _ h2 => by rw [HNE.out] at h2; cases h2), fun _ => HOV2.out⟩
                   case measure => simp [intOf]; omega
                 · have hte : (takesL (S, t) (i + 1)).2 = true := by rw [HEN.out, decide_eq_false h1, decide_eq_true h2, ht]; rfl
                   have HT0 := Lib.hid (show ¬ t = 0 by omega)
                   have e46 : ((t : Int) == 46) = false := by rw [beq_eq_false_iff_ne]; omega
                   have e0 : ((t : Int) == 0) = false := by rw [beq_eq_false_iff_ne]; omega
                   clear ht
                   have HTE := Lib.hid hte
                   have HH2 := Lib.hid h2
                   clear hte h2
                   go_wp2_with (first
                     | (at_range; refine wpl_krange (K := KI) rfl _ _ rfl Tryz.underlying191 rfl HNX2.out ?_; intro w5 cnt5 hc5 hr5 hg5 hs5)
                     | fail)
                   (try go_frame)
                   obtain ⟨rb, hrb⟩ : ∃ rb, wz.heap.size = rb := ⟨_, rfl⟩
                   rw [hrb] at hr5
                   (try rw [hrb])
                   have zrb5 : wq.heap.size ≤ rb := by have := HGL.out.size; omega
                   have HGL6 := Lib.hid (gr_none HGL.out hg5)
                   have HRG6 := Lib.hid hr5
                   clear hr5 hg5 hs5 hrb hc5 k0 k1
                   go_loopw [21] (fun _ wr => ∃ (Lf : Int → Bool) (cnt : Nat), wq.grownBy wr none ∧ RngK KI Value.bool wr nb_ rb cn (setF (lvC (S, t) l (i + 1))) Lf cnt ∧ ∀ s' : Nat, Rch (S, t) l (i + 1) s' → Lf s' = false → endB l s' (i + 1) = true) (fun _ wr => wr.rangeLeft nb_ rb)
                   case atStart => exact ⟨_, cnt5, HGL6.out, HRG6.out, fun s' h h2 => by rw [setF_true (show lvC (S, t) l (i + 1) s' from ⟨s', rfl, h⟩)] at h2; cases h2⟩
                   case round =>
                     clear HGL6 HRG6 cnt5 HGL HNX2
                     obtain ⟨Lf2, cnt2, hg, hrg, hen2⟩ := hrel
                     have HGL := Lib.hid hg; have HRG := Lib.hid hrg; have HEN2 := Lib.hid hen2
                     have hrl := hrg.left_eq
                     have HRL := Lib.hid hrl
                     have HRM := Lib.hid hrg.map
                     clear hg hrg hen2 hrl
                     go_wp2_with (first
                       | (at_next; refine wpl_pnext (K := KI) KI_full rfl _ rfl rfl HRG.out ?_ ?_)
                       | fail)
                     · intro hL0
                       have HCK2 := Lib.hid (HCK.out.succ (fun s' hs' _ _ => HEN2.out s' hs' (by
                         have h5 := hs'.bd.2
                         rw [HLL.out] at h5
                         exact hL0 _ (ik_ok (by omega) (by omega)))))
                       have hbx2 := HBX.out.grown HGL.out (by simp)
                       have HBZ2 := Lib.hid hbx2
                       clear hbx2 hL0
                       have k1 := HBZ2.out.cell 1
                       go_wp2_with fail
                       go_roundw
                       case rel => exact ⟨i + 1, nb_, cn, by omega, by go_num, rfl, HGL.out, by omega, HRM.out, HCK2.out, fun _ => by unfold over; rw [decide_eq_false HT0.out, Bool.and_false]⟩
                       case measure => simp [intOf]; omega
                     · intro x0 w7 cnt7 hok7 hfx hlx hrg7 hlt7 hg7 hs7 hen7
                       obtain ⟨s0, rfl, hr0⟩ := hfx
                       have h5 := hr0.bd.2
                       rw [HLL.out] at h5
                       have hen8 : (Instr.entry (.pointer (some ⟨rb, 0, none⟩))).run Tryz.prog w7 = .ok (.tuple #[.int .i64 (s0 : Int), .bool true]) w7 := hen7
                       have HGL7 := Lib.hid (gr_trans HGL.out hg7 (fun g e => .inr (by injection e with e; omega)))
                       obtain ⟨EB, hEB⟩ : ∃ EB, endB l s0 (i + 1) = EB := ⟨_, rfl⟩
                       have HEB := Lib.hid hEB
                       have HR0 := Lib.hid hr0; have HRG7 := Lib.hid hrg7
                       clear hen7 hg7 hs7 hEB hr0 hrg7 hok7 hlx
                       go_wp2_with fail
                       refine (ended_any lo1 0 B k d ps s0 (i + 1) _ (HPS.out.grown HGL7.out gn_ gn_) (by omega) (by omega) (by omega)).mono ?_
                       rintro e w8 ⟨rfl, hg8⟩
                       rw [HL.out, HEB.out]
                       have HGL8 := Lib.hid (gr_none HGL7.out hg8)
                       have HRG8 := Lib.hid (HRG7.out.kept hg8 (by simp) (by simp))
                       clear hg8 hen8
                       cases EB
                       · have HV := Lib.hid (covB_false HR0.out HTE.out (by omega) HEB.out)
                         go_wp2_with fail
                         go_ret
                         exact ⟨by rw [HOSL.out, HV.out]; rfl, gr_none HGQ.out HGL8.out⟩
                       · go_wp2_with fail
                         go_roundw
                         case rel =>
                           refine ⟨_, cnt7, HGL8.out, HRG8.out, fun s' h h2 => ?_⟩
                           by_cases e : (s' : Int) = (s0 : Int)
                           · obtain rfl : s' = s0 := by omega
                             exact HEB.out
                           · refine HEN2.out s' h ?_
                             simpa [e] using h2
                         case measure => rw [HRG8.out.left_eq, HRL.out]; omega
               · have d2 : ((i : Int) + 1 == (sn : Int)) = false := by rw [beq_eq_false_iff_ne]; omega
                 have ht0 : ¬ t = 0 := by
                   intro ht
                   have := HOV.out
                   unfold over at this
                   dsimp only at this
                   rw [HSN.out, decide_eq_true (show sn ≤ i by omega), decide_eq_true ht] at this
                   cases this
                 have hte : (takesL (S, t) (i + 1)).2 = true := by rw [HEN.out, decide_eq_false h1, decide_eq_false h2]; rfl
                 have HT0 := Lib.hid ht0
                 have e0 : ((t : Int) == 0) = false := by rw [beq_eq_false_iff_ne]; omega
                 clear ht0
                 have HTE := Lib.hid hte
                 have HH2 := Lib.hid h2
                 clear hte h2
                 go_wp2_with (first
                   | (at_range; refine wpl_krange (K := KI) rfl _ _ rfl Tryz.underlying191 rfl HNX2.out ?_; intro w5 cnt5 hc5 hr5 hg5 hs5)
                   | fail)
                 (try go_frame)
                 obtain ⟨rb, hrb⟩ : ∃ rb, wz.heap.size = rb := ⟨_, rfl⟩
                 rw [hrb] at hr5
                 (try rw [hrb])
                 have zrb5 : wq.heap.size ≤ rb := by have := HGL.out.size; omega
                 have HGL6 := Lib.hid (gr_none HGL.out hg5)
                 have HRG6 := Lib.hid hr5
                 clear hr5 hg5 hs5 hrb hc5 k0 k1
                 go_loopw [21] (fun _ wr => ∃ (Lf : Int → Bool) (cnt : Nat), wq.grownBy wr none ∧ RngK KI Value.bool wr nb_ rb cn (setF (lvC (S, t) l (i + 1))) Lf cnt ∧ ∀ s' : Nat, Rch (S, t) l (i + 1) s' → Lf s' = false → endB l s' (i + 1) = true) (fun _ wr => wr.rangeLeft nb_ rb)
                 case atStart => exact ⟨_, cnt5, HGL6.out, HRG6.out, fun s' h h2 => by rw [setF_true (show lvC (S, t) l (i + 1) s' from ⟨s', rfl, h⟩)] at h2; cases h2⟩
                 case round =>
                   clear HGL6 HRG6 cnt5 HGL HNX2
                   obtain ⟨Lf2, cnt2, hg, hrg, hen2⟩ := hrel
                   have HGL := Lib.hid hg; have HRG := Lib.hid hrg; have HEN2 := Lib.hid hen2
                   have hrl := hrg.left_eq
                   have HRL := Lib.hid hrl
                   have HRM := Lib.hid hrg.map
                   clear hg hrg hen2 hrl
                   go_wp2_with (first
                     | (at_next; refine wpl_pnext (K := KI) KI_full rfl _ rfl rfl HRG.out ?_ ?_)
                     | fail)
                   · intro hL0
                     have HCK2 := Lib.hid (HCK.out.succ (fun s' hs' _ _ => HEN2.out s' hs' (by
                       have h5 := hs'.bd.2
                       rw [HLL.out] at h5
                       exact hL0 _ (ik_ok (by omega) (by omega)))))
                     have hbx2 := HBX.out.grown HGL.out (by simp)
                     have HBZ2 := Lib.hid hbx2
                     clear hbx2 hL0
                     have k1 := HBZ2.out.cell 1
                     go_wp2_with fail
                     go_roundw
                     case rel => exact ⟨i + 1, nb_, cn, by omega, by go_num, rfl, HGL.out, by omega, HRM.out, HCK2.out, fun _ => by unfold over; rw [decide_eq_false HT0.out, Bool.and_false]⟩
                     case measure => simp [intOf]; omega
                   · intro x0 w7 cnt7 hok7 hfx hlx hrg7 hlt7 hg7 hs7 hen7
                     obtain ⟨s0, rfl, hr0⟩ := hfx
                     have h5 := hr0.bd.2
                     rw [HLL.out] at h5
                     have hen8 : (Instr.entry (.pointer (some ⟨rb, 0, none⟩))).run Tryz.prog w7 = .ok (.tuple #[.int .i64 (s0 : Int), .bool true]) w7 := hen7
                     have HGL7 := Lib.hid (gr_trans HGL.out hg7 (fun g e => .inr (by injection e with e; omega)))
                     obtain ⟨EB, hEB⟩ : ∃ EB, endB l s0 (i + 1) = EB := ⟨_, rfl⟩
                     have HEB := Lib.hid hEB
                     have HR0 := Lib.hid hr0; have HRG7 := Lib.hid hrg7
                     clear hen7 hg7 hs7 hEB hr0 hrg7 hok7 hlx
                     go_wp2_with fail
                     refine (ended_any lo1 0 B k d ps s0 (i + 1) _ (HPS.out.grown HGL7.out gn_ gn_) (by omega) (by omega) (by omega)).mono ?_
                     rintro e w8 ⟨rfl, hg8⟩
                     rw [HL.out, HEB.out]
                     have HGL8 := Lib.hid (gr_none HGL7.out hg8)
                     have HRG8 := Lib.hid (HRG7.out.kept hg8 (by simp) (by simp))
                     clear hg8 hen8
                     cases EB
                     · have HV := Lib.hid (covB_false HR0.out HTE.out (by omega) HEB.out)
                       go_wp2_with fail
                       go_ret
                       exact ⟨by rw [HOSL.out, HV.out]; rfl, gr_none HGQ.out HGL8.out⟩
                     · go_wp2_with fail
                       go_roundw
                       case rel =>
                         refine ⟨_, cnt7, HGL8.out, HRG8.out, fun s' h h2 => ?_⟩
                         by_cases e : (s' : Int) = (s0 : Int)
                         · obtain rfl : s' = s0 := by omega
                           exact HEB.out
                         · refine HEN2.out s' h ?_
                           simpa [e] using h2
                       case measure => rw [HRG8.out.left_eq, HRL.out]; omega
           · intro x0 w7 cnt7 hok7 hfx hlx hrg7 hlt7 hg7 hs7 hen7
             obtain ⟨s0, rfl, hr0⟩ := hfx
             have h5 := hr0.bd.2
             rw [HLL.out] at h5
             have hen8 : (Instr.entry (.pointer (some ⟨nb_ + 1, 0, none⟩))).run Tryz.prog w7 = .ok (.tuple #[.int .i64 (s0 : Int), .bool true]) w7 := hen7
             have HGL7 := Lib.hid (gr_trans HGL.out hg7 (fun g e => .inr (by injection e with e; omega)))
             have HNX7 := Lib.hid (HNX.out.kept hg7 (by simp))
             have HR0 := Lib.hid hr0; have HRG7 := Lib.hid hrg7
             have HLX := Lib.hid hlx
             have HLT7 := Lib.hid hlt7
             have znb7 := HNX7.out.lt
             have zrb7 := hrg7.lt
             clear hen7 hg7 hs7 hr0 hrg7 hok7 hlx hlt7 HGL HNX HRG
             go_wp2_with (first
               | (refine wpl_load_all Tryz.shT2 rfl _ rfl _ rfl _ _ (HBX.out.grown HGL7.out (by simp)) rfl ?_)
               | fail)
             refine (setAt_any sA sn sc i (S, t) _ (HSX.out.grown HGL7.out gn_) (by omega) hsn).mono ?_
             rintro e w8 ⟨rfl, hg8⟩
             have HGL8 := Lib.hid (gr_none HGL7.out hg8)
             have HNX8 := Lib.hid (HNX7.out.kept hg8 (by simp))
             have HRG8 := Lib.hid (HRG7.out.kept hg8 (by simp) (by simp))
             have z8 := hg8.size
             obtain ⟨bs, hbs⟩ : ∃ bs, strN (setAtL (S, t) i) = bs := ⟨_, rfl⟩
             have HNBS := Lib.hid (show nb bs = setAtL (S, t) i by rw [← hbs]; exact nb_strN (setAt_bd _ _).2)
             have hbz : bs.size ≤ 12 := by rw [← hbs, strN_size]; exact (setAt_bd _ _).1
             rw [hbs]
             clear hbs hg8 hen8 HGL7 HNX7 HRG7
             obtain ⟨lob, hlob⟩ : ∃ lob, w8.heap.size = lob := ⟨_, rfl⟩
             have HLOB := Lib.hid hlob
             clear hlob
             go_wp2_with (first
               | (refine wpl_bytesOf rfl _ 9 155 5 rfl Tryz.underlying9 Tryz.underlying155 Tryz.underlying5 bs rfl ?_
                  intro w9 bA bc hb9 hg9
                  have HB9 := Lib.hid hb9; have HG9 := Lib.hid hg9; clear hb9 hg9)
               | fail)
             have HGL9 := Lib.hid (gr_none HGL8.out HG9.out)
             have HNX9 := Lib.hid (HNX8.out.kept HG9.out (by simp))
             have HRG9 := Lib.hid (HRG8.out.kept HG9.out (by simp) (by simp))
             have z9 := HG9.out.size
             rw [HLOB.out] at HB9
             have zlob : nb_ < lob := by have := HLOB.out; omega
             clear HGL8 HNX8 HRG8 HG9 HLOB
             obtain ⟨wo, rfl⟩ : ∃ wo : World, wo = wr := ⟨_, rfl⟩
             go_loopw [17, 18, 19, 20, 64] (fun _ _ _ _ t64 wr => ∃ (j cn' : Nat), j ≤ bs.size ∧ t64 = .int .i64 j ∧ w9.grownBy wr (some nb_) ∧ SetP KI wr nb_ cn' (fun k' : Int => (∃ s' c' : Nat, Rch (S, t) l i s' ∧ Lf s' = false ∧ c' ∈ setAtL (S, t) i ∧ k' = (kp l i (sgIx c') s' : Nat)) ∨ ∃ c' : Nat, c' ∈ (setAtL (S, t) i).take j ∧ k' = (kp l i (sgIx c') s0 : Nat)) ∧ cn' ≤ cn + j) (fun _ _ _ _ t64 _ => bs.size - (intOf t64).toNat)
             case atStart => exact ⟨0, cn, Nat.zero_le _, rfl, gr_refl _ _, HNX9.out.iff (fun k' _ => by simp), Nat.le_refl _⟩
             case round =>
               clear HNX9
               obtain ⟨j, cn', hj, rfl, hg, hnx, hcn'⟩ := hrel
               have HGJ := Lib.hid hg; have HNX := Lib.hid hnx; have HCN' := Lib.hid hcn'
               have HGW := Lib.hid (show wq.grownBy wr none from gr_trans HGL9.out hg (fun g e => .inr (by injection e with e; omega)))
               clear hg hnx hcn'
               by_cases hjl : j < bs.size
               · have dj : decide ((j : Int) < (bs.size : Int)) = true := decide_eq_true (by omega)
                 have dj' : decide (j < bs.size) = true := decide_eq_true hjl
                 obtain ⟨g, o, z, rfl, hgl, _, hz, hc⟩ := (HB9.out.grown HGJ.out (fun g e => by injection e with e; omega)).get hjl
                 rw [HNBS.out, List.getElem?_map] at hz
                 obtain ⟨c', hc', rfl⟩ : ∃ c' : Nat, (setAtL (S, t) i)[j]? = some c' ∧ (c' : Int) = z := by
                   cases hq : (setAtL (S, t) i)[j]? with
                   | none => rw [hq] at hz; cases hz
                   | some c' => rw [hq] at hz; exact ⟨c', rfl, Option.some.inj hz⟩
                 have HCM := Lib.hid (mem_of_get hc')
                 have HCS := Lib.hid (setAt_sgn (mem_of_get hc'))
                 have hsg12 := sg12 (setAt_sgn (mem_of_get hc'))
                 have HTKJ := Lib.hid (take_snoc' hc')
                 clear hz hc'
                 obtain ⟨wj, rfl⟩ : ∃ wj : World, wj = wr := ⟨_, rfl⟩
                 go_wp2_with fail
                 clear hc
                 go_loopw [18, 19, 20, 70] (fun v18 _ _ t70 wr => ∃ q : Nat, q ≤ k ∧ t70 = .int .i64 q ∧ v18 = .int .i64 ((kpTo l i (sgIx c') s0 q : Nat) : Int) ∧ wj.grownBy wr none) (fun _ _ _ t70 _ => k - (intOf t70).toNat)
                 case atStart => exact ⟨0, Nat.zero_le _, rfl, rfl, gr_refl _ _⟩
                 case round =>
                   obtain ⟨q, hq, rfl, rfl, hg⟩ := hrel
                   have HJ := Lib.hid hg
                   have HJW := Lib.hid (gr_none HGW.out hg)
                   clear hg
                   have hkb := kpTo_lt l i (sgIx c') s0 q
                   by_cases hql : q < k
                   · obtain ⟨g1, o1, p1, rfl, _, hg1, hz1, hc1⟩ := (HPS.out.grown HJW.out gn_ gn_).recs.get shRow_len hql
                     have hok := HPS.out.ok p1 (mem_of_get hz1)
                     have hpn := hok.n
                     have hpl := hok.st.len
                     have hpt := hok.rt.1
                     have HPR := Lib.hid hok.rt
                     have HPT := Lib.hid hok.st
                     have HGD := Lib.hid (show l.getD q ([], 0) = p1.x by rw [← HL.out]; exact shsX_getD hz1)
                     have hbt := bit_test s0 q (by omega)
                     obtain ⟨pA, pn, pc, S', t'⟩ := p1
                     dsimp only at hpn hpl hpt HGD HPR HPT
                     have HC1 := Lib.hid hc1
                     have HPL := Lib.hid hpl
                     clear hz1 hc1 hok hpl
                     obtain ⟨wa, hwa⟩ : ∃ wa, wr.alloc (.cells #[.slice pA pn pc, .int .u8 t'] 109) = wa := ⟨_, rfl⟩
                     obtain ⟨pb, hpb⟩ : ∃ pb, wr.heap.size = pb := ⟨_, rfl⟩
                     have HPB := Lib.hid (show Blk wa pb 109 #[.slice pA pn pc, .int .u8 t'] by rw [← hwa, ← hpb]; exact Blk.new _ _ _)
                     have hga : wr.grownBy wa none := by rw [← hwa]; exact gr_alloc (gr_refl _ _) _
                     have HJP := Lib.hid (gr_none HJ.out hga)
                     have HJQ := Lib.hid (gr_none HJW.out hga)
                     have HWA := Lib.hid hwa; have HPBB := Lib.hid hpb
                     clear hwa hga hpb
                     go_upto_region 24 with (first
                       | (refine wpl_load_at Tryz.shT2 rfl _ rfl _ rfl [.slice pA pn pc, .int .u8 t'] rfl (fun j u hu => by rw [add_mk]; exact HC1.out j u hu) ?_)
                       | fail)
                     rw [HWA.out, HPBB.out]
                     clear HWA HPBB
                     have k0 := HPB.out.cell 0
                     have k1 := HPB.out.cell 1
                     cases hb : s0.testBit q
                     · rw [hb, if_neg (by simp)] at hbt
                       have hno : (s0.testBit q && tkB l i (sgIx c') q) = false := by rw [hb]; rfl
                       clear hb
                       have HN := Lib.hid (kpTo_no hno)
                       clear hno
                       go_wp2_with fail
                       go_roundw
                       case rel => exact ⟨q + 1, by omega, by go_num, by rw [HN.out], HJP.out⟩
                       case measure => simp [intOf]; omega
                     · rw [hb, if_pos rfl] at hbt
                       by_cases hlt2 : i < pn
                       · have d3 : decide ((i : Int) < (pn : Int)) = true := decide_eq_true (by omega)
                         have d3' : decide (i < pn) = true := decide_eq_true hlt2
                         have hovq : over (S', t') i = false := by unfold over; dsimp only; rw [HPL.out, decide_eq_false (by omega)]; rfl
                         clear hlt2
                         have htk : tkB l i (sgIx c') q = decide (c' ∈ setAtL (S', t') i) := by
                           unfold tkB
                           rw [HGD.out, tk_doc HPR.out HCS.out, hovq]; simp
                         obtain ⟨ss, hss⟩ : ∃ ss, strN (setAtL (S', t') i) = ss := ⟨_, rfl⟩
                         have HNS := Lib.hid (show nb ss = setAtL (S', t') i by rw [← hss]; exact nb_strN (setAt_bd _ _).2)
                         have HSS := Lib.hid hss
                         obtain ⟨z, hz⟩ : ∃ z, idxL (setAtL (S', t') i) c' = z := ⟨_, rfl⟩
                         have HZ := Lib.hid hz
                         have hi0 := idx_mem (l := setAtL (S', t') i) (c := c')
                         rw [hz] at hi0
                         clear hss hz
                         by_cases hin : c' ∈ setAtL (S', t') i
                         · have hz0 := hi0.1.2 hin
                           have HN := Lib.hid (kpTo_or (l := l) (a := i) (i := sgIx c') (s := s0) (k := q) (by rw [hb, htk, decide_eq_true hin]; rfl))
                           have hq12 : 2 ^ q ≤ 4096 := Nat.pow_le_pow_right (n := 2) (by omega) (show q ≤ 12 by omega)
                           have hor := i64_or (kpTo l i (sgIx c') s0 q) q (by omega) (by omega)
                           clear hq12
                           have hor2 : bits .or .i64 ((kpTo l i (sgIx c') s0 q : Nat) : Int) (wrap64 ((2 : Int) ^ q)) = ((kpTo l i (sgIx c') s0 q ||| 2 ^ q : Nat) : Int) := by
                             rw [wrap64_i]; exact hor
                           rw [← HN.out] at hor2
                           clear hi0 hin htk hor hovq hb
                           go_wp2_with (first
                             | (refine wpl_load_all Tryz.shT2 rfl _ rfl _ rfl _ _ HPB.out rfl ?_)
                             | (go_at_call 70
                                refine (setAt_any pA pn pc i (S', t') _ (HPT.out.grown HJQ.out gn_) (by omega) hpn).mono ?_
                                rintro e w12 ⟨rfl, hg12⟩
                                rw [HSS.out]
                                have HJR := Lib.hid (gr_none HJP.out hg12)
                                clear hg12)
                             | (go_at_call 69; refine (indexByteN ss c' _ (sgn_lt HCS.out)).mono ?_; rintro e w' ⟨rfl, rfl⟩; rw [HNS.out, HZ.out])
                             | fail)
                           go_roundw
                           case rel => exact ⟨q + 1, by omega, by go_num, rfl, HJR.out⟩
                           case measure => simp [intOf]; omega
                         · have hz0 : z < 0 := hi0.2.2 hin
                           have hz1 : ¬ 0 ≤ z := by omega
                           have HN := Lib.hid (kpTo_no (l := l) (a := i) (i := sgIx c') (s := s0) (k := q) (by rw [hb, htk, decide_eq_false hin]; rfl))
                           clear hi0 hin htk hovq hb
                           go_wp2_with (first
                             | (refine wpl_load_all Tryz.shT2 rfl _ rfl _ rfl _ _ HPB.out rfl ?_)
                             | (go_at_call 70
                                refine (setAt_any pA pn pc i (S', t') _ (HPT.out.grown HJQ.out gn_) (by omega) hpn).mono ?_
                                rintro e w12 ⟨rfl, hg12⟩
                                rw [HSS.out]
                                have HJR := Lib.hid (gr_none HJP.out hg12)
                                clear hg12)
                             | (go_at_call 69; refine (indexByteN ss c' _ (sgn_lt HCS.out)).mono ?_; rintro e w' ⟨rfl, rfl⟩; rw [HNS.out, HZ.out])
                             | fail)
                           go_roundw
                           case rel => exact ⟨q + 1, by omega, by go_num, by rw [HN.out], HJR.out⟩
                           case measure => simp [intOf]; omega
                       · have d3 : decide ((i : Int) < (pn : Int)) = false := decide_eq_false (by omega)
                         have d3' : decide (i < pn) = false := decide_eq_false hlt2
                         by_cases ht0 : t' = 0
                         · have e0 : ((t' : Int) != 0) = false := by simp [ht0]
                           have hno : (s0.testBit q && tkB l i (sgIx c') q) = false := by
                             unfold tkB
                             rw [HGD.out, tk_doc HPR.out HCS.out]
                             have : over (S', t') i = true := by unfold over; dsimp only; rw [HPL.out, decide_eq_true (show pn ≤ i by omega), decide_eq_true ht0]; rfl
                             rw [this]; simp
                           clear hb ht0 hlt2
                           have HN := Lib.hid (kpTo_no hno)
                           clear hno
                           go_wp2_with fail
                           go_roundw
                           case rel => exact ⟨q + 1, by omega, by go_num, by rw [HN.out], HJP.out⟩
                           case measure => simp [intOf]; omega
                         · have e0 : ((t' : Int) != 0) = true := by rw [bne_iff_ne]; omega
                           have hovq : over (S', t') i = false := by unfold over; rw [decide_eq_false (show ¬ t' = 0 from ht0), Bool.and_false]
                           clear ht0 hlt2
                           have htk : tkB l i (sgIx c') q = decide (c' ∈ setAtL (S', t') i) := by
                             unfold tkB
                             rw [HGD.out, tk_doc HPR.out HCS.out, hovq]; simp
                           obtain ⟨ss, hss⟩ : ∃ ss, strN (setAtL (S', t') i) = ss := ⟨_, rfl⟩
                           have HNS := Lib.hid (show nb ss = setAtL (S', t') i by rw [← hss]; exact nb_strN (setAt_bd _ _).2)
                           have HSS := Lib.hid hss
                           obtain ⟨z, hz⟩ : ∃ z, idxL (setAtL (S', t') i) c' = z := ⟨_, rfl⟩
                           have HZ := Lib.hid hz
                           have hi0 := idx_mem (l := setAtL (S', t') i) (c := c')
                           rw [hz] at hi0
                           clear hss hz
                           by_cases hin : c' ∈ setAtL (S', t') i
                           · have hz0 := hi0.1.2 hin
                             have HN := Lib.hid (kpTo_or (l := l) (a := i) (i := sgIx c') (s := s0) (k := q) (by rw [hb, htk, decide_eq_true hin]; rfl))
                             have hq12 : 2 ^ q ≤ 4096 := Nat.pow_le_pow_right (n := 2) (by omega) (show q ≤ 12 by omega)
                             have hor := i64_or (kpTo l i (sgIx c') s0 q) q (by omega) (by omega)
                             clear hq12
                             have hor2 : bits .or .i64 ((kpTo l i (sgIx c') s0 q : Nat) : Int) (wrap64 ((2 : Int) ^ q)) = ((kpTo l i (sgIx c') s0 q ||| 2 ^ q : Nat) : Int) := by
                               rw [wrap64_i]; exact hor
                             rw [← HN.out] at hor2
                             clear hi0 hin htk hor hovq hb
                             go_wp2_with (first
                               | (refine wpl_load_all Tryz.shT2 rfl _ rfl _ rfl _ _ HPB.out rfl ?_)
                               | (go_at_call 70
                                  refine (setAt_any pA pn pc i (S', t') _ (HPT.out.grown HJQ.out gn_) (by omega) hpn).mono ?_
                                  rintro e w12 ⟨rfl, hg12⟩
                                  rw [HSS.out]
                                  have HJR := Lib.hid (gr_none HJP.out hg12)
                                  clear hg12)
                               | (go_at_call 69; refine (indexByteN ss c' _ (sgn_lt HCS.out)).mono ?_; rintro e w' ⟨rfl, rfl⟩; rw [HNS.out, HZ.out])
                               | fail)
                             go_roundw
                             case rel => exact ⟨q + 1, by omega, by go_num, rfl, HJR.out⟩
                             case measure => simp [intOf]; omega
                           · have hz0 : z < 0 := hi0.2.2 hin
                             have hz1 : ¬ 0 ≤ z := by omega
                             have HN := Lib.hid (kpTo_no (l := l) (a := i) (i := sgIx c') (s := s0) (k := q) (by rw [hb, htk, decide_eq_false hin]; rfl))
                             clear hi0 hin htk hovq hb
                             go_wp2_with (first
                               | (refine wpl_load_all Tryz.shT2 rfl _ rfl _ rfl _ _ HPB.out rfl ?_)
                               | (go_at_call 70
                                  refine (setAt_any pA pn pc i (S', t') _ (HPT.out.grown HJQ.out gn_) (by omega) hpn).mono ?_
                                  rintro e w12 ⟨rfl, hg12⟩
                                  rw [HSS.out]
                                  have HJR := Lib.hid (gr_none HJP.out hg12)
                                  clear hg12)
                               | (go_at_call 69; refine (indexByteN ss c' _ (sgn_lt HCS.out)).mono ?_; rintro e w' ⟨rfl, rfl⟩; rw [HNS.out, HZ.out])
                               | fail)
                             go_roundw
                             case rel => exact ⟨q + 1, by omega, by go_num, by rw [HN.out], HJR.out⟩
                             case measure => simp [intOf]; omega
                   · have hqk : q = k := by omega
                     have dq : decide ((q : Int) < (k : Int)) = false := decide_eq_false (by omega)
                     have HKP := Lib.hid (show kpTo l i (sgIx c') s0 q = kp l i (sgIx c') s0 by rw [hqk, ← HLL.out]; rfl)
                     rw [HKP.out] at hkb ⊢
                     have hp12' : 2 ^ q ≤ 4096 := by rw [hqk]; exact hp12
                     obtain ⟨kv, hkv⟩ : ∃ kv, kp l i (sgIx c') s0 = kv := ⟨_, rfl⟩
                     rw [hkv] at hkb ⊢
                     have HKV := Lib.hid hkv
                     have HOKV := Lib.hid (show KI.ok ((kv : Nat) : Int) from ik_ok (by omega) (by omega))
                     have HNX' := Lib.hid (HNX.out.kept HJ.out (by simp))
                     have hcnb : cn' ≤ 60000 := by have := HCN'.out; have := HCN.out; omega
                     clear hqk hkv HKP
                     go_wp2_with (first
                       | (refine wpl_pput (K := KI) rfl _ _ _ _ rfl Tryz.underlying191 rfl ((kv : Nat) : Int) rfl rfl HOKV.out HNX'.out (by unfold maxLen; omega) ?_
                          intro wp_ hp_ hgp_
                          have HSP := Lib.hid hp_; have HGP := Lib.hid hgp_; clear hp_ hgp_)
                       | fail)
                     go_roundw
                     case rel =>
                       refine ⟨j + 1, cn' + 1, by omega, by go_num, gr_trans (gr_none HGJ.out HJ.out) HGP.out (fun g e => .inl e.symm), HSP.out.iff (fun k' _ => ?_), by have := HCN'.out; omega⟩
                       rw [HTKJ.out]
                       constructor
                       · rintro ((h | ⟨c2, h1, h2⟩) | h)
                         · exact .inl h
                         · exact .inr ⟨c2, List.mem_append_left _ h1, h2⟩
                         · exact .inr ⟨c', List.mem_append_right _ (List.mem_singleton.2 rfl), by rw [HKV.out]; exact h⟩
                       · rintro (h | ⟨c2, h1, h2⟩)
                         · exact .inl (.inl h)
                         · rcases List.mem_append.1 h1 with h3 | h3
                           · exact .inl (.inr ⟨c2, h3, h2⟩)
                           · rw [List.mem_singleton.1 h3, HKV.out] at h2
                             exact .inr h2
                     case measure => simp [intOf]; omega
               · have hjb : j = bs.size := by omega
                 have dj : decide ((j : Int) < (bs.size : Int)) = false := decide_eq_false (by omega)
                 have HRGJ := Lib.hid (HRG9.out.kept HGJ.out (by simp; omega) (by simp))
                 have HJB := Lib.hid (show (setAtL (S, t) i).take j = setAtL (S, t) i from List.take_of_length_le (by rw [hjb, ← nb_len, HNBS.out]; exact Nat.le_refl _))
                 have hcnx : cn' + 12 * cnt7 ≤ 49152 := by have := HCN'.out; have := HCN.out; have := HLT7.out; omega
                 clear hjb
                 go_wp2_with fail
                 go_roundw
                 case rel =>
                   refine ⟨_, cnt7, cn', HGW.out, HRGJ.out, HNX.out.iff (fun k' _ => ?_), hcnx⟩
                   rw [HJB.out]
                   constructor
                   · rintro (⟨s', c2, h1, h2, h3, h4⟩ | ⟨c2, h1, h2⟩)
                     · exact ⟨s', c2, h1, by rw [h2]; rfl, h3, h4⟩
                     · exact ⟨s0, c2, HR0.out, by simp, h1, h2⟩
                   · rintro ⟨s', c2, h1, h2, h3, h4⟩
                     by_cases e : (s' : Int) = (s0 : Int)
                     · obtain rfl : s' = s0 := by omega
                       exact .inr ⟨c2, h3, h4⟩
                     · exact .inl ⟨s', c2, h1, by simpa [e] using h2, h3, h4⟩
                 case measure => rw [HRGJ.out.left_eq, HRL.out]; exact HLT7.out
       · obtain rfl : i = 30 := by omega
         have d30 : decide ((30 : Int) < 30) = false := by decide
         have HV := Lib.hid (covB_true HCK.out.cov)
         go_wp2_with fail
         go_ret
         exact ⟨by rw [HOSL.out, HV.out]; rfl, gr_none HGQ.out HGL.out⟩
end Go.Proofs.YteppdabhloieaaaGreatDoor

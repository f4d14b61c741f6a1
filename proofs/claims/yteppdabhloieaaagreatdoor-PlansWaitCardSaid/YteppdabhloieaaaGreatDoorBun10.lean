/- Contracts of the document's after and PlanFault. Conditions: none. -/
import Derived.Test.YteppdabhloieaaaGreatDoorPlan3
import Derived.Test.YteppdabhloieaaaGreatDoorBun1
import Derived.Test.YteppdabhloieaaaGreatDoorBun7
import Derived.Test.YteppdabhloieaaaGreatDoorBun9
namespace Go.Proofs.YteppdabhloieaaaGreatDoor
section
open Go.RowKit
theorem keys_snoc (l : List CxV) (is : List Nat) {k : Nat} {z : CxV} (h : l[k]? = some z) : keysOf l (is ++ [k]) = keysOf l is ++ [z.key] := by unfold keysOf; rw [List.map_append]; simp [h]
theorem keys_app (l : List CxV) (a b : List Nat) : keysOf l (a ++ b) = keysOf l a ++ keysOf l b := by unfold keysOf; rw [List.map_append]
theorem keys_len (l : List CxV) (is : List Nat) : (keysOf l is).length = is.length := by unfold keysOf; rw [List.length_map]
theorem keys_inc {l : List CxV} {k : Nat} {z : CxV} (hm : misB l = false) (h : l[k]? = some z) : keysOf l (incIx l k) = z.incs := by
 rw [incIx_at h]
 unfold keysOf
 rw [List.map_map]
 have : ∀ s ∈ z.incs, ((fun i => (l[i]?).elim (⟨#[]⟩ : ByteArray) (·.key)) ∘ fun s => (cxIx l s).toNat) s = s := fun s hs => by
   obtain ⟨i, y, e, hy, hk⟩ := cxIx_some (mis_no hm h hs)
   show (l[(cxIx l s).toNat]?).elim (⟨#[]⟩ : ByteArray) (·.key) = s
   rw [e]
   show (l[i]?).elim (⟨#[]⟩ : ByteArray) (·.key) = s
   rw [hy]
   exact nb_inj hk
 rw [List.map_congr_left this, List.map_id']
theorem keys_get {l : List CxV} {is : List Nat} {q : Nat} {s : ByteArray} (h : (keysOf l is)[q]? = some s) (hb : ∀ x ∈ is, x < l.length) : ∃ k z, is[q]? = some k ∧ l[k]? = some z ∧ z.key = s := by
 unfold keysOf at h
 rw [List.getElem?_map] at h
 cases hq : is[q]? with
 | none => rw [hq] at h; cases h
 | some k =>
   rw [hq] at h
   have hk := hb k (List.mem_iff_getElem?.2 ⟨q, hq⟩)
   refine ⟨k, l[k], rfl, List.getElem?_eq_getElem hk, ?_⟩
   simp only [Option.map_some, List.getElem?_eq_getElem hk] at h
   injection h
theorem keys_mem {l : List CxV} {is : List Nat} {i : Nat} {z : CxV} (hk : Keyed1 l) (hb : ∀ x ∈ is, x < l.length) (h : l[i]? = some z) : (keysOf l is).any (fun x => nb x == nb z.key) = decide (i ∈ is) := by
 rw [Bool.eq_iff_iff, List.any_eq_true, decide_eq_true_eq]
 constructor
 · rintro ⟨x, hx, hp⟩
   obtain ⟨q, hq⟩ := List.mem_iff_getElem?.1 hx
   obtain ⟨k, y, h1, h2, h3⟩ := keys_get hq hb
   have := hk k i y z h2 h (by rw [h3]; simpa using hp)
   subst this
   exact List.mem_iff_getElem?.2 ⟨q, h1⟩
 · intro hi
   refine ⟨z.key, ?_, by simp⟩
   unfold keysOf
   exact List.mem_map.2 ⟨i, hi, by rw [h]; rfl⟩
theorem drop_get {α : Type} {l : List α} {q : Nat} {a : α} (h : l[q]? = some a) : l.drop q = a :: l.drop (q + 1) := by
 obtain ⟨hl, rfl⟩ := List.getElem?_eq_some_iff.1 h
 exact List.drop_eq_getElem_cons hl
theorem Recs.keptR {α : Type} {row : α → List Value} {k : Nat} {w w' : World} {lo n c : Nat} {A : Option Addr} {l : List α} (h : Recs row k w lo A n c l) {r : Option Nat} (hg : w.grownBy w' r) (hne : ∀ g, r = some g → blkOf A ≠ some g) : Recs row k w' lo A n c l :=
 ⟨⟨h.1.1, h.1.2.1, fun hp => by
   obtain ⟨g, o, e, h1, h2, h3⟩ := h.1.2.2 hp
   subst e
   exact ⟨g, o, rfl, h1, Nat.lt_of_lt_of_le h2 hg.size, fun j u hu => (World.cell?_of_block (hg.block g h2 (fun e => hne g e.symm rfl))).trans (h3 j u hu)⟩⟩, h.2⟩
def lenV : Value → Nat
 | .slice _ n _ => n
 | _ => 0
theorem Tryz.stT : ElemT Tryz.prog 57 9 1 16 (.string ⟨#[]⟩) := elemT_of Tryz.underlying57 (by kernel_rfl) rfl (by decide)
theorem own_app {w w' : World} {lo n c m n1 c1 : Nat} {A A1 : Option Addr} {l l' : List ByteArray} (h : OwnR srow 1 w lo 9 A n c l) (hm : l'.length = m) (hn : n1 = n + m) (h1 : Appended w lo 9 1 A A1 n1 c1 (l.flatMap srow ++ l'.flatMap srow) w') : OwnR srow 1 w' lo 9 A1 n1 c1 (l ++ l') :=
 ⟨by rw [List.flatMap_append]; exact h1.1, by rw [List.length_append, h.2, hm, hn]⟩
theorem srow_one {l : List ByteArray} : ∀ u ∈ l.flatMap srow, u.oneCell' = true := fun u hu => by
 obtain ⟨s, _, hs⟩ := List.mem_flatMap.1 hu
 unfold srow at hs
 rw [List.mem_singleton.1 hs]; rfl
set_option maxHeartbeats 16000000 in
set_option maxRecDepth 100000 in
theorem after_any (lo : Nat) (p : PlV) (i : Nat) (z : CxV) (w : World) (h : PlOk w lo p) (hm : misB p.ctxs = false) (hk : Keyed1 p.ctxs) (hz : p.ctxs[i]? = some z) (hcn : p.cn ≤ 50) (hen : ∀ c ∈ p.ctxs, c.en ≤ 10) :
   Calls Tryz.prog 59 #[.agg #[.slice p.cA p.cn p.cc, .slice p.hA p.hn p.hc], .string z.key] w (fun e w' => ∃ (A : Option Addr) (n c : Nat) (out : List Nat), e = .returned (.slice A n c) ∧ OwnR srow 1 w' w.heap.size 9 A n c (keysOf p.ctxs out) ∧ (∀ x, x ∈ out ↔ Path (incIx p.ctxs) i x) ∧ n ≤ 50 ∧ w.grownBy w' none) := by
 obtain ⟨cA, cn, cc, hA, hn, hc, ctxs, hours⟩ := p
 dsimp only at hm hk hz hcn hen ⊢
 have HKX := Lib.hid (cxIx_at hk hz rfl)
 have HK1 := Lib.hid hk; have HM := Lib.hid hm; have HZC := Lib.hid hz; have HEN := Lib.hid hen
 obtain ⟨W1, hW⟩ : ∃ W1, w.alloc (.cells #[.slice cA cn cc, .slice hA hn hc] 29) = W1 := ⟨_, rfl⟩
 have HP := Lib.hid (show Blk W1 w.heap.size 29 #[.slice cA cn cc, .slice hA hn hc] by rw [← hW]; exact Blk.new _ _ _)
 have HG := Lib.hid (show w.grownBy W1 none by rw [← hW]; exact gr_alloc (gr_refl _ _) _)
 have H0 := Lib.hid h
 have HW := Lib.hid hW
 have hlen := h.ctxs.len
 dsimp only at hlen
 have HLEN := Lib.hid hlen
 have HS := Lib.hid (show ∀ a b, b ∈ incIx ctxs a → b < cn from fun a b hb => by rw [← hlen]; exact incIx_bd hm a b hb)
 have hin : i < cn := by rw [← hlen]; exact (List.getElem?_eq_some_iff.1 hz).1
 have hin2 : (i : Int) < (cn : Int) := by omega
 obtain ⟨g, o, z', hcA, _, hgl, hz', hcc⟩ := h.ctxs.get CxV.row_len hin
 dsimp only at hcA hz'
 obtain rfl : z = z' := by rw [hz] at hz'; injection hz'
 subst hcA
 have en10 : z.en ≤ 10 := hen z (mem_of_get hz)
 clear h hk hm hz hen hW hz' hcc hlen hgl
 go_enter Tryz.func59, Tryz.ntmps59
 go_upto_region 2 with (fail)
 rw [HW.out]
 refine H_begin (fun w' => w.grownBy w' none ∧ Blk w' w.heap.size 29 #[.slice (some ⟨g, o, none⟩) cn cc, .slice hA hn hc]) (by kernel_rfl) ?_
 have hHeld : w.grownBy W1.drew none ∧ Blk W1.drew w.heap.size 29 #[.slice (some ⟨g, o, none⟩) cn cc, .slice hA hn hc] := ⟨gr_drew HG.out, HP.out.drew⟩
 refine H_take (k := 0) (v := ?_) (by rfl) (by kernel_rfl) (by kernel_rfl) (by kernel_rfl) (by exact fun _ _ _ h => h) (by rfl) ?_ (by assumption) ?_
 rotate_left 1
 · intro w hSw
   (try dsimp only at hSw)
   go_simp
   (try with_reducible rfl)
 (try simp only [Act.put, l1_, l2_, l3_])
 refine H_take (k := 1) (v := ?_) (by rfl) (by kernel_rfl) (by kernel_rfl) (by kernel_rfl) (by exact fun _ _ _ h => h) (by rfl) ?_ hHeld ?_
 rotate_left 1
 · intro w' hSw
   have kc := hSw.2.cell 0
   go_simp
   (try with_reducible rfl)
 (try simp only [Act.put, l1_, l2_, l3_])
 refine H_take (k := 2) (v := .agg #[.slice (some ⟨g, o, none⟩) cn cc, .slice hA hn hc]) (by rfl) (by kernel_rfl) (by kernel_rfl) (by kernel_rfl) (by exact fun _ _ _ h => h) (by rfl) (fun w' hSw => exec_load_blk' Tryz.plT _ rfl _ rfl 29 [.slice (some ⟨g, o, none⟩) cn cc, .slice hA hn hc] hSw.2 rfl) hHeld ?_
 (try simp only [Act.put, l1_, l2_, l3_])
 refine H_take (k := 3) (v := ?_) (by rfl) (by kernel_rfl) (by kernel_rfl) (by kernel_rfl) (by exact fun _ _ _ h => h) (by rfl) ?_ (by assumption) ?_
 rotate_left 1
 · intro w hSw
   (try dsimp only at hSw)
   go_simp
   (try with_reducible rfl)
 (try simp only [Act.put, l1_, l2_, l3_])
 refine H_run (k := 4) (by rfl) (by kernel_rfl) (by rfl) (fun K hK => ?_)
 go_simp
 refine (contextAtR_any lo ⟨some ⟨g, o, none⟩, cn, cc, hA, hn, hc, ctxs, hours⟩ z.key _ (H0.out.ctxs.grown (gr_drew HG.out) gn_) (by dsimp only; omega)).mono ?_
 rintro e w2 ⟨rfl, hg2⟩
 dsimp only
 rw [HKX.out]
 have hS2 : w.grownBy w2 none ∧ Blk w2 w.heap.size 29 #[.slice (some ⟨g, o, none⟩) cn cc, .slice hA hn hc] := ⟨gr_none (gr_drew HG.out) hg2, (HP.out.drew).grown hg2 (by simp)⟩
 refine hK _ _ hS2 ?_
 clear hK K hHeld hg2
 have hHeld := hS2
 clear hS2
 refine H_take (k := 5) (v := ?_) (by rfl) (by kernel_rfl) (by kernel_rfl) (by kernel_rfl) (by exact fun _ _ _ h => h) (by rfl) ?_ (by assumption) ?_
 rotate_left 1
 · intro w hSw
   (try dsimp only at hSw)
   go_simp
   (try with_reducible rfl)
 (try simp only [Act.put, l1_, l2_, l3_])
 refine H_take (k := 6) (v := ?_) (by rfl) (by kernel_rfl) (by kernel_rfl) (by kernel_rfl) (by exact fun _ _ _ h => h) (by rfl) ?_ (by assumption) ?_
 rotate_left 1
 · intro w hSw
   (try dsimp only at hSw)
   go_simp
   (try with_reducible rfl)
 (try simp only [Act.put, l1_, l2_, l3_])
 refine H_take (k := 7) (v := ?_) (by rfl) (by kernel_rfl) (by kernel_rfl) (by kernel_rfl) (by exact fun _ _ _ h => h) (by rfl) ?_ hHeld ?_
 rotate_left 1
 · intro w' hSw
   have kc := (H0.out.ctxs.grown hSw.1 gn_).at_ CxV.row_len HZC.out 2 _ rfl
   go_simp
   (try with_reducible rfl)
 (try simp only [Act.put, l1_, l2_, l3_])
 refine H_take (k := 8) (v := ?_) (by rfl) (by kernel_rfl) (by kernel_rfl) (by kernel_rfl) (by exact fun _ _ _ h => h) (by rfl) ?_ (by assumption) ?_
 rotate_left 1
 · intro w hSw
   (try dsimp only at hSw)
   go_simp
   (try with_reducible rfl)
 (try simp only [Act.put, l1_, l2_, l3_])
 refine H_done (by kernel_rfl) ?_
 have HHB := Lib.hid hHeld
 clear hHeld HG HP
 obtain ⟨wo, rfl⟩ : ∃ wo : World, wo = w2 := ⟨_, rfl⟩
 go_wp2_with fail
 go_loopw [5, 6, 7, 9] (fun v5 v6 _ _ wr => ∃ (out nx : List Nat) (A : Option Addr) (n c : Nat) (B : Option Addr) (m d : Nat), v5 = .slice A n c ∧ v6 = .slice B m d ∧ (w.grownBy wr none ∧ Blk wr w.heap.size 29 #[.slice (some ⟨g, o, none⟩) cn cc, .slice hA hn hc]) ∧ OwnR srow 1 wr w.heap.size 9 A n c (keysOf ctxs out) ∧ Recs srow 1 wr 0 B m d (keysOf ctxs nx) ∧ (∀ g, blkOf A = some g → blkOf B ≠ some g) ∧ AfInv (incIx ctxs) cn i out nx ∧ m ≤ 1000) (fun v5 v6 _ _ _ => (50 - lenV v5) * 2 + min (lenV v6) 1)
 case atStart =>
   have HC := H0.out.cok _ (mem_of_get HZC.out)
   refine ⟨[], incIx ctxs i, none, 0, 0, z.iA, z.en, z.ic, rfl, rfl, HHB.out, OwnR.nil _ _ _, ?_, gn_, AfInv.new _ _ _, by omega⟩
   rw [keys_inc HM.out HZC.out]
   exact (HC.incs.grown HHB.out.1 gn_).lower (Nat.zero_le _)
 case round =>
   clear HHB
   obtain ⟨out, nx, A, n, c, B, m, d, rfl, rfl, hS0, ho, hr, hne, hinv, hm⟩ := hrel
   have HSW := Lib.hid hS0; have HO := Lib.hid ho; have HR := Lib.hid hr; have HNE := Lib.hid hne; have HI := Lib.hid hinv
   have hn50 : n ≤ 50 := by
     have h1 := hinv.bd HS.out
     skip
     have h2 := ho.2
     rw [keys_len] at h2
     omega
   clear hS0 ho hr hne hinv
   by_cases hm0 : 0 < m
   · have hmi : (0 : Int) < (m : Int) := by omega
     obtain ⟨wv, rfl⟩ : ∃ wv : World, wv = wr := ⟨_, rfl⟩
     go_wp2_with fail
     go_loopw [5, 7, 9, 23] (fun v5 v7 _ t wr => ∃ (q : Nat) (out' more : List Nat) (A' : Option Addr) (n' c' : Nat) (D : Option Addr) (m2 d2 : Nat), q ≤ m ∧ t = .int .i64 q ∧ v5 = .slice A' n' c' ∧ v7 = .slice D m2 d2 ∧ (w.grownBy wr none ∧ Blk wr w.heap.size 29 #[.slice (some ⟨g, o, none⟩) cn cc, .slice hA hn hc]) ∧ OwnR srow 1 wr w.heap.size 9 A' n' c' (keysOf ctxs out') ∧ OwnR srow 1 wr w.heap.size 9 D m2 d2 (keysOf ctxs more) ∧ Recs srow 1 wr 0 B m d (keysOf ctxs nx) ∧ ((∀ g, blkOf A' = some g → blkOf B ≠ some g) ∧ (∀ g, blkOf D = some g → blkOf B ≠ some g) ∧ (∀ g, blkOf A' = some g → blkOf D ≠ some g)) ∧ AfInv (incIx ctxs) cn i out' (nx.drop q ++ more) ∧ n ≤ n' ∧ m2 ≤ 10 * (n' - n)) (fun _ _ _ t _ => m - (intOf t).toNat)
     case atStart => exact ⟨0, out, [], A, n, c, none, 0, 0, Nat.zero_le _, rfl, rfl, rfl, HSW.out, HO.out, OwnR.nil _ _ _, HR.out, ⟨HNE.out, gn_, fun g e e' => by cases e'⟩, by simpa using HI.out, Nat.le_refl _, by omega⟩
     case round =>
       clear HSW HO HR HNE HI hn50
       obtain ⟨q, out', more, A', n', c', D, m2, d2, hq, rfl, rfl, rfl, hS0, ho, hd, hr, hne, hinv, hnn, hm2⟩ := hrel
       have HSW := Lib.hid hS0; have HO := Lib.hid ho; have HD := Lib.hid hd; have HR := Lib.hid hr; have HNE := Lib.hid hne; have HI := Lib.hid hinv
       have hn50 : n' ≤ 50 := by
         have h1 := hinv.bd HS.out
         skip
         have h2 := ho.2
         rw [keys_len] at h2
         omega
       have hob : ∀ x ∈ out', x < ctxs.length := fun x hx => by rw [HLEN.out]; exact (hinv.outP x hx).bd HS.out
       have hpb : ∀ x ∈ nx.drop q ++ more, x < ctxs.length := fun x hx => by rw [HLEN.out]; exact (hinv.pendP x hx).bd HS.out
       have HOB := Lib.hid hob
       by_cases hlt : q < m
       · obtain ⟨gB, oB, s, hBA, _, hgB, hs, hcs⟩ := hr.get srow_len hlt
         subst hBA
         obtain ⟨k, y, hk1, hk2, hk3⟩ : ∃ k y, nx[q]? = some k ∧ ctxs[k]? = some y ∧ y.key = s := by
           unfold keysOf at hs
           rw [List.getElem?_map] at hs
           cases hq2 : nx[q]? with
           | none => rw [hq2] at hs; cases hs
           | some k =>
             have hkl := hpb k (List.mem_append.2 (.inl (by rw [drop_get hq2]; simp)))
             rw [hq2] at hs
             refine ⟨k, ctxs[k], rfl, List.getElem?_eq_getElem hkl, ?_⟩
             simp only [Option.map_some, List.getElem?_eq_getElem hkl] at hs
             injection hs
         subst hk3
         have ks := hcs 0 _ rfl
         simp only [Nat.mul_one, Nat.add_zero] at ks
         have HKN := Lib.hid hk1; have HKY := Lib.hid hk2
         have HI2 := Lib.hid (show AfInv (incIx ctxs) cn i out' (k :: (nx.drop (q + 1) ++ more)) by rw [← List.cons_append, ← drop_get hk1]; exact hinv)
         have hqm : (q : Int) < (m : Int) := by omega
         have HMEM := Lib.hid (keys_mem HK1.out hob hk2)
         clear hS0 ho hd hr hne hinv hob hpb hs hcs hk1 hk2
         go_wp2_with fail
         refine (containsS_any w.heap.size A' n' c' (keysOf ctxs out') y.key _ HO.out.recs (by omega)).mono ?_
         rintro e w' ⟨rfl, rfl⟩
         rw [show List.any (keysOf ctxs out') (fun x => nb x == nb y.key) = decide (k ∈ out') from HMEM.out]
         by_cases hko : k ∈ out'
         · rw [decide_eq_true hko]
           have HN := Lib.hid (HI2.out.skip hko)
           clear hko ks
           go_wp2_with fail
           go_roundw
           case rel => exact ⟨q + 1, out', more, A', n', c', D, m2, d2, by omega, by go_num, rfl, rfl, HSW.out, HO.out, HD.out, HR.out, HNE.out, HN.out, hnn, hm2⟩
           case measure => simp [intOf]; omega
         · rw [decide_eq_false hko]
           have HN := Lib.hid (HI2.out.take hko)
           have n50 : n' + 1 ≤ 50 := by
             have h1 := HN.out.bd HS.out
             rw [List.length_append] at h1
             have h2 := HO.out.2
             rw [keys_len] at h2
             simp at h1
             omega
           clear hko ks
           have zw := HSW.out.1.size
           go_upto_region 10 with (first
             | (at_builtin
                refine wpl_app _ rfl _ _ Tryz.stT rfl w.heap.size A' n' c' _ rfl (by exact HO.out.1.alloc _) _ _ 1 1 [.string y.key] rfl (by exact Reads.one _ _ _ _ rfl) (by simp [Value.oneCell']) (by unfold maxLen; omega) (by omega) (by simp; omega) ?_
                intro A5 c5 w5 h5
                have H5 := Lib.hid h5; clear h5)
             | fail)
           have ha1 := HO.out.alloc (.cells #[.string y.key] 9)
           have hb1 := HSW.out.2.alloc (.cells #[.string y.key] 9)
           have HO5 := Lib.hid (show OwnR srow 1 w5 w.heap.size 9 A5 (n' + 1) c5 (keysOf ctxs (out' ++ [k])) by rw [keys_snoc ctxs out' HKY.out]; exact ha1.app rfl H5.out)
           have HD5 := Lib.hid ((HD.out.alloc (.cells #[.string y.key] 9)).kept H5.out.2.1 (fun g e => HNE.out.2.2 g e))
           have HR5 := Lib.hid ((Recs.grown HR.out (gr_alloc (gr_refl _ none) (.cells #[.string y.key] 9)) gn_).keptR H5.out.2.1 (fun g e => HNE.out.1 g e))
           have HS5 := Lib.hid (show w.grownBy w5 none ∧ Blk w5 w.heap.size 29 #[.slice (some ⟨g, o, none⟩) cn cc, .slice hA hn hc] from ⟨H5.out.gr (gr_alloc HSW.out.1 _) ha1.1 (Nat.le_refl _), hb1.grown H5.out.2.1 (Ne.symm (ha1.1.blk_ne hb1 (by decide)))⟩)
           have HNE5 := Lib.hid (show (∀ g, blkOf A5 = some g → blkOf (some ⟨gB, oB, none⟩) ≠ some g) ∧ (∀ g, blkOf D = some g → blkOf (some ⟨gB, oB, none⟩) ≠ some g) ∧ (∀ g, blkOf A5 = some g → blkOf D ≠ some g) from by
             refine ⟨fun g e e' => ?_, HNE.out.2.1, fun g e e' => ?_⟩
             · rcases H5.out.2.2 g e with q1 | q1
               · exact HNE.out.1 g q1 e'
               · simp [blkOf] at e'; simp at q1; omega
             · rcases H5.out.2.2 g e with q1 | q1
               · exact HNE.out.2.2 g q1 e'
               · have := (HD.out.1.lt e').2; simp at q1; omega)
           clear ha1 hb1 HO HD HR HSW HNE H5 zw
           have hkc : k < cn := by rw [← HLEN.out]; exact (List.getElem?_eq_some_iff.1 HKY.out).1
           have hkc2 : (k : Int) < (cn : Int) := by omega
           have HKI := Lib.hid (cxIx_at HK1.out HKY.out rfl)
           have yen : y.en ≤ 10 := HEN.out y (mem_of_get HKY.out)
           refine H_begin (fun w' => w.grownBy w' none ∧ Blk w' w.heap.size 29 #[.slice (some ⟨g, o, none⟩) cn cc, .slice hA hn hc]) (by kernel_rfl) ?_
           have hHeld : w.grownBy w5.drew none ∧ Blk w5.drew w.heap.size 29 #[.slice (some ⟨g, o, none⟩) cn cc, .slice hA hn hc] := ⟨gr_drew HS5.out.1, HS5.out.2.drew⟩
           refine H_take (k := 0) (v := ?_) (by rfl) (by kernel_rfl) (by kernel_rfl) (by kernel_rfl) (by exact fun _ _ _ h => h) (by rfl) ?_ (by assumption) ?_
           rotate_left 1
           · intro w hSw
             (try dsimp only at hSw)
             go_simp
             (try with_reducible rfl)
           (try simp only [Act.put, l1_, l2_, l3_])
           refine H_take (k := 1) (v := ?_) (by rfl) (by kernel_rfl) (by kernel_rfl) (by kernel_rfl) (by exact fun _ _ _ h => h) (by rfl) ?_ (by assumption) ?_
           rotate_left 1
           · intro w hSw
             (try dsimp only at hSw)
             go_simp
             (try with_reducible rfl)
           (try simp only [Act.put, l1_, l2_, l3_])
           refine H_take (k := 2) (v := ?_) (by rfl) (by kernel_rfl) (by kernel_rfl) (by kernel_rfl) (by exact fun _ _ _ h => h) (by rfl) ?_ hHeld ?_
           rotate_left 1
           · intro w' hSw
             have kc := hSw.2.cell 0
             go_simp
             (try with_reducible rfl)
           (try simp only [Act.put, l1_, l2_, l3_])
           refine H_take (k := 3) (v := .agg #[.slice (some ⟨g, o, none⟩) cn cc, .slice hA hn hc]) (by rfl) (by kernel_rfl) (by kernel_rfl) (by kernel_rfl) (by exact fun _ _ _ h => h) (by rfl) (fun w' hSw => exec_load_blk' Tryz.plT _ rfl _ rfl 29 [.slice (some ⟨g, o, none⟩) cn cc, .slice hA hn hc] hSw.2 rfl) hHeld ?_
           (try simp only [Act.put, l1_, l2_, l3_])
           refine H_take (k := 4) (v := ?_) (by rfl) (by kernel_rfl) (by kernel_rfl) (by kernel_rfl) (by exact fun _ _ _ h => h) (by rfl) ?_ (by assumption) ?_
           rotate_left 1
           · intro w hSw
             (try dsimp only at hSw)
             go_simp
             (try with_reducible rfl)
           (try simp only [Act.put, l1_, l2_, l3_])
           refine H_run (k := 5) (by rfl) (by kernel_rfl) (by rfl) (fun K hK => ?_)
           go_simp
           refine (contextAtR_any lo ⟨some ⟨g, o, none⟩, cn, cc, hA, hn, hc, ctxs, hours⟩ y.key _ (H0.out.ctxs.grown (gr_drew HS5.out.1) gn_) (by dsimp only; omega)).mono ?_
           rintro e w6 ⟨rfl, hg6⟩
           dsimp only
           rw [HKI.out]
           have hS6 : w.grownBy w6 none ∧ Blk w6 w.heap.size 29 #[.slice (some ⟨g, o, none⟩) cn cc, .slice hA hn hc] := ⟨gr_none (gr_drew HS5.out.1) hg6, (HS5.out.2.drew).grown hg6 (by simp)⟩
           refine hK _ _ hS6 ?_
           have HO6 := Lib.hid (HO5.out.low (gr_none (gr_drew (gr_refl w5 none)) hg6) gn_)
           have HD6 := Lib.hid (HD5.out.low (gr_none (gr_drew (gr_refl w5 none)) hg6) gn_)
           have HR6 := Lib.hid (HR5.out.grown (gr_none (gr_drew (gr_refl w5 none)) hg6) gn_)
           have HS6 := Lib.hid hS6
           clear hK K hHeld hg6 HS5 HO5 HD5 HR5
           have hHeld := hS6
           clear hS6
           refine H_take (k := 6) (v := ?_) (by rfl) (by kernel_rfl) (by kernel_rfl) (by kernel_rfl) (by exact fun _ _ _ h => h) (by rfl) ?_ (by assumption) ?_
           rotate_left 1
           · intro w hSw
             (try dsimp only at hSw)
             go_simp
             (try with_reducible rfl)
           (try simp only [Act.put, l1_, l2_, l3_])
           refine H_take (k := 7) (v := ?_) (by rfl) (by kernel_rfl) (by kernel_rfl) (by kernel_rfl) (by exact fun _ _ _ h => h) (by rfl) ?_ (by assumption) ?_
           rotate_left 1
           · intro w hSw
             (try dsimp only at hSw)
             go_simp
             (try with_reducible rfl)
           (try simp only [Act.put, l1_, l2_, l3_])
           refine H_take (k := 8) (v := ?_) (by rfl) (by kernel_rfl) (by kernel_rfl) (by kernel_rfl) (by exact fun _ _ _ h => h) (by rfl) ?_ hHeld ?_
           rotate_left 1
           · intro w' hSw
             have kc := (H0.out.ctxs.grown hSw.1 gn_).at_ CxV.row_len HKY.out 2 _ rfl
             go_simp
             (try with_reducible rfl)
           (try simp only [Act.put, l1_, l2_, l3_])
           refine H_run (k := 9) (by rfl) (by kernel_rfl) (by rfl) (fun K hK => ?_)
           have hci := H0.out.cok _ (mem_of_get HKY.out)
           refine wp_app _ _ _ Tryz.stT (by rfl) w.heap.size D m2 d2 _ (by rfl) (by exact HD6.out.1) lo y.iA y.en y.ic (y.incs.flatMap srow) (by rfl) (by exact (hci.incs.grown HS6.out.1 gn_).1) srow_one (by unfold maxLen; omega) (by omega) HS6.out.1.size ?_
           intro A7 c7 w7 h7
           have HO7 := Lib.hid (HO6.out.kept h7.2.1 (fun g e e' => HNE5.out.2.2 g e' e))
           have HR7 := Lib.hid (HR6.out.keptR h7.2.1 (fun g e => HNE5.out.2.1 g e))
           have hS7 : w.grownBy w7 none ∧ Blk w7 w.heap.size 29 #[.slice (some ⟨g, o, none⟩) cn cc, .slice hA hn hc] := ⟨h7.gr HS6.out.1 HD6.out.1 (Nat.le_refl _), HS6.out.2.grown h7.2.1 (Ne.symm (HD6.out.1.blk_ne HS6.out.2 (by decide)))⟩
           have HD7 := Lib.hid (show OwnR srow 1 w7 w.heap.size 9 A7 (m2 + y.en) c7 (keysOf ctxs (more ++ incIx ctxs k)) by
             rw [keys_app, keys_inc HM.out HKY.out]
             exact own_app HD6.out hci.incs.len rfl h7)
           have HNE7 := Lib.hid (show (∀ g, blkOf A5 = some g → blkOf (some ⟨gB, oB, none⟩) ≠ some g) ∧ (∀ g, blkOf A7 = some g → blkOf (some ⟨gB, oB, none⟩) ≠ some g) ∧ (∀ g, blkOf A5 = some g → blkOf A7 ≠ some g) from by
             refine ⟨HNE5.out.1, fun g e e' => ?_, fun g e e' => ?_⟩
             · rcases h7.2.2 g e with q1 | q1
               · exact HNE5.out.2.1 g q1 e'
               · have := HR6.out.1.2.2 (by omega)
                 obtain ⟨g1, o1, e1, _, e2, _⟩ := this
                 injection e1 with e1
                 injection e1 with e3 e4
                 simp [blkOf] at e'
                 omega
             · rcases h7.2.2 g e' with q1 | q1
               · exact HNE5.out.2.2 g e q1
               · have := (HO6.out.1.lt e).2; omega)
           refine hK _ _ hS7 ?_
           have HS7 := Lib.hid hS7
           clear hK K hHeld h7 hS7 hci HS6 HO6 HD6 HR6 HNE5
           have hHeld := HS7.out
           refine H_take (k := 10) (v := ?_) (by rfl) (by kernel_rfl) (by kernel_rfl) (by kernel_rfl) (by exact fun _ _ _ h => h) (by rfl) ?_ (by assumption) ?_
           rotate_left 1
           · intro w hSw
             (try dsimp only at hSw)
             go_simp
             (try with_reducible rfl)
           (try simp only [Act.put, l1_, l2_, l3_])
           refine H_done (by kernel_rfl) ?_
           go_wp2_with fail
           go_roundw
           case rel => exact ⟨q + 1, out' ++ [k], more ++ incIx ctxs k, A5, n' + 1, c5, A7, m2 + y.en, c7, by omega, by go_num, rfl, rfl, HS7.out, HO7.out, HD7.out, HR7.out, HNE7.out, by rw [← List.append_assoc]; exact HN.out, by omega, by omega⟩
           case measure => simp [intOf]; omega
       · obtain rfl : q = m := by omega
         have HI2 := Lib.hid (show AfInv (incIx ctxs) cn i out' more by
           have h1 := hr.2
           rw [keys_len] at h1
           rw [List.drop_of_length_le (by omega), List.nil_append] at hinv
           exact hinv)
         clear hS0 ho hd hr hne hinv hob hpb
         go_wp2_with fail
         go_roundw
         case rel => exact ⟨out', more, A', n', c', D, m2, d2, rfl, rfl, HSW.out, HO.out, HD.out.recs.lower (Nat.zero_le _), HNE.out.2.2, HI2.out, by omega⟩
         case measure => show (50 - n') * 2 + min m2 1 < (50 - n) * 2 + min q 1; omega
   · obtain rfl : m = 0 := by omega
     have HE := Lib.hid (show ∀ x, x ∈ out ↔ Path (incIx ctxs) i x from by
       have h1 := HR.out.2
       rw [keys_len] at h1
       have h2 : nx = [] := List.eq_nil_of_length_eq_zero h1
       have h3 := HI.out
       rw [h2] at h3
       exact h3.end_)
     go_wp2_with fail
     go_ret
     exact ⟨A, n, c, out, rfl, HO.out, HE.out, hn50, HSW.out.1⟩
end
end Go.Proofs.YteppdabhloieaaaGreatDoor
namespace Go.Proofs.YteppdabhloieaaaGreatDoor
section
open Go.RowKit
theorem Tryz.rusT : ElemT Tryz.prog 68 73 6 80 (.agg #[.string ⟨#[]⟩, .int .i64 0, .string ⟨#[]⟩, .int .i64 0, .string ⟨#[]⟩, .string ⟨#[]⟩]) := elemT_of Tryz.underlying68 (by kernel_rfl) rfl (by decide)
def CxBd (c : CxV) : Prop := (c.key.size ≤ 1000000 ∧ c.rn ≤ 1000000 ∧ c.en ≤ 1000000) ∧ (∀ r ∈ c.rules, RuOk r) ∧ ∀ s ∈ c.incs, s.size ≤ 1000000
def CxOwn (w : World) (lo : Nat) (c : CxV) : Prop := CxBd c ∧ OwnR RuV.row 6 w lo 73 c.rA c.rn c.rc c.rules ∧ OwnR srow 1 w lo 9 c.iA c.en c.ic c.incs
def RuApart (a b : CxV) : Prop := ∀ g, blkOf a.rA = some g → blkOf b.rA ≠ some g
def GCx (w : World) (lo : Nat) (A : Option Addr) (n c : Nat) (l : List CxV) : Prop :=
 OwnR CxV.row 3 w lo 70 A n c l ∧ (∀ a ∈ l, CxOwn w lo a) ∧ ∀ (i j : Nat) (a b : CxV), i ≠ j → l[i]? = some a → l[j]? = some b → RuApart a b
section
variable {w w' : World} {lo n c : Nat} {A : Option Addr} {l : List CxV}
theorem CxOwn.ok {a : CxV} (h : CxOwn w lo a) : CxOk w lo a := ⟨h.1.1.1, h.1.1.2.1, h.1.1.2.2, h.2.1.recs, h.2.2.recs, h.1.2.1, h.1.2.2⟩
theorem GCx.recs (h : GCx w lo A n c l) : Recs CxV.row 3 w lo A n c l := h.1.recs
theorem GCx.nil (w : World) (lo : Nat) : GCx w lo none 0 0 [] := ⟨OwnR.nil _ _ _, (fun a ha => by cases ha), fun i j a b _ h => by simp at h⟩
theorem CxOwn.kept {a : CxV} (h : CxOwn w lo a) {r : Option Nat} (hg : w.grownBy w' r) (h1 : ∀ g, r = some g → blkOf a.rA ≠ some g) (h2 : ∀ g, r = some g → blkOf a.iA ≠ some g) : CxOwn w' lo a := ⟨h.1, h.2.1.kept hg h1, h.2.2.kept hg h2⟩
theorem CxOwn.low {a : CxV} (h : CxOwn w lo a) {r : Option Nat} (hg : w.grownBy w' r) (hr : ∀ g, r = some g → g < lo) : CxOwn w' lo a := ⟨h.1, h.2.1.low hg hr, h.2.2.low hg hr⟩
theorem CxOwn.lower {a : CxV} {lo' : Nat} (h : CxOwn w lo a) (hl : lo' ≤ lo) : CxOwn w lo' a := ⟨h.1, h.2.1.lower hl, h.2.2.lower hl⟩
theorem GCx.low (h : GCx w lo A n c l) {r : Option Nat} (hg : w.grownBy w' r) (hr : ∀ g, r = some g → g < lo) : GCx w' lo A n c l := ⟨h.1.low hg hr, fun a ha => (h.2.1 a ha).low hg hr, h.2.2⟩
theorem CxOwn.other {a : CxV} (h : CxOwn w lo a) {lo' n' c' k' : Nat} {A' : Option Addr} {xs : List Value} (ho : Own w lo' 70 k' A' n' c' xs) (hg : w.grownBy w' (blkOf A')) : CxOwn w' lo a :=
 h.kept hg (fun g e => Own.ne ho h.2.1.1 (by decide) e) (fun g e => Own.ne ho h.2.2.1 (by decide) e)
theorem GCx.app {a : CxV} {hi : Nat} (h : GCx w lo A n c l) (ha : CxOwn w lo a) (har : ∀ g, blkOf a.rA = some g → hi ≤ g) (hb : ∀ b ∈ l, ∀ g, blkOf b.rA = some g → g < hi) {A1 : Option Addr} {c1 n1 : Nat} (hn : n1 = n + 1)
   (h1 : Appended w lo 70 3 A A1 n1 c1 (l.flatMap CxV.row ++ a.row) w') : GCx w' lo A1 n1 c1 (l ++ [a]) := by
 have ap : ∀ b ∈ l, RuApart a b ∧ RuApart b a := fun b hb1 => ⟨fun g e e' => by have := hb b hb1 g e'; have := har g e; omega, fun g e e' => by have := hb b hb1 g e; have := har g e'; omega⟩
 refine ⟨h.1.app hn h1, fun b hb1 => ?_, fun i j x y hne hx hy => ?_⟩
 · rcases List.mem_append.1 hb1 with hb1 | hb1
   · exact (h.2.1 b hb1).other h.1.1 h1.2.1
   · rw [List.mem_singleton.1 hb1]; exact ha.other h.1.1 h1.2.1
 · rw [List.getElem?_append] at hx hy
   split at hx <;> split at hy
   · exact h.2.2 i j x y hne hx hy
   · rename_i q1 q2
     have : y = a := by
       cases hj : j - l.length with
       | zero => rw [hj] at hy; simpa using hy.symm
       | succ q => rw [hj] at hy; simp at hy
     subst this
     exact (ap x (mem_of_get hx)).2
   · rename_i q1 q2
     have : x = a := by
       cases hj : i - l.length with
       | zero => rw [hj] at hx; simpa using hx.symm
       | succ q => rw [hj] at hx; simp at hx
     subst this
     exact (ap y (mem_of_get hy)).1
   · exfalso
     rename_i q1 q2
     have h3 : i - l.length = 0 := by
       cases hj : i - l.length with
       | zero => rfl
       | succ q => rw [hj] at hx; simp at hx
     have h4 : j - l.length = 0 := by
       cases hj : j - l.length with
       | zero => rfl
       | succ q => rw [hj] at hy; simp at hy
     omega
theorem GCx.put {g i j p : Nat} {a a' : CxV} {u : Value} (hc : OwnR CxV.row 3 w lo 70 (some ⟨g, 0, none⟩) n c l) (hi : l[i]? = some a) (hj : j < 3) (hr : a'.row = a.row.set j u) (hp : p = i * 3 + j)
   (ho : ∀ (k : Nat) (b : CxV), k ≠ i → l[k]? = some b → CxOwn w lo b) (ha : CxOwn w lo a') (hap : ∀ (k : Nat) (b : CxV), k ≠ i → l[k]? = some b → RuApart a' b ∧ RuApart b a') (hab : ∀ (i j : Nat) (a b : CxV), i ≠ j → l[i]? = some a → l[j]? = some b → RuApart a b) :
   GCx (w.setCell ⟨g, p, none⟩ u) lo (some ⟨g, 0, none⟩) n c (l.set i a') := by
 have hg : w.grownBy (w.setCell ⟨g, p, none⟩ u) (blkOf (some ⟨g, 0, none⟩)) := gr_setCell (gr_refl _ _) (.inl rfl) _
 have hil := (List.getElem?_eq_some_iff.1 hi).1
 refine ⟨hc.set1 CxV.row_len hi hj hr hp, fun x hx => ?_, fun i1 j1 x y hne hx hy => ?_⟩
 · rcases mem_setH hx with rfl | ⟨q, hq, hx⟩
   · exact ha.other hc.1 hg
   · exact (ho q x hq hx).other hc.1 hg
 · rw [List.getElem?_set] at hx hy
   by_cases e1 : i = i1
   · rw [if_pos e1, if_pos (by omega)] at hx
     injection hx with hx
     subst hx
     rw [if_neg (by omega)] at hy
     exact (hap j1 y (by omega) hy).1
   · rw [if_neg e1] at hx
     by_cases e2 : i = j1
     · rw [if_pos e2, if_pos (by omega)] at hy
       injection hy with hy
       subst hy
       exact (hap i1 x (by omega) hx).2
     · rw [if_neg e2] at hy
       exact hab i1 j1 x y hne hx hy
end
def IsPlan (lo : Nat) (v : Value) (w : World) : Prop := ∃ p : PlV, v = .agg #[.slice p.cA p.cn p.cc, .slice p.hA p.hn p.hc] ∧ PlOk w lo p ∧ p.cn ≤ 3 ∧ p.hn ≤ 2
def IsGPl (lo most : Nat) (v : Value) (w : World) : Prop := ∃ (A B : Option Addr) (c d : Nat) (l : List CxV) (hs : List HrV), v = .agg #[.slice A 3 c, .slice B 2 d] ∧ GCx w lo A 3 c l ∧ GHrs w lo B 2 d hs ∧ ∀ a ∈ l, a.rn ≤ most ∧ a.en ≤ 2
def RuBd (r : RuV) : Prop := r.pat.size ≤ 1000 ∧ r.pre.size ≤ 1000 ∧ r.nam.size ≤ 1000 ∧ r.hrs.size ≤ 1000
theorem RuBd.ok {r : RuV} (h : RuBd r) : RuOk r := ⟨by have := h.1; omega, by have := h.2.1; omega, by have := h.2.2.1; omega, by have := h.2.2.2; omega⟩
def IsRu (v : Value) (_ : World) : Prop := ∃ r : RuV, v = .agg #[.string r.pat, .int .i64 r.strip, .string r.pre, .int .i64 r.to_, .string r.nam, .string r.hrs] ∧ RuBd r
end
end Go.Proofs.YteppdabhloieaaaGreatDoor
namespace Go.Proofs.YteppdabhloieaaaGreatDoor
section
open Go.RowKit
theorem blkNP (w : World) (t : TypeId) (cs : Array Value) {g : Nat} (hg : w.heap.size = g) : Blk (w.alloc (.cells cs t)) g t cs := by subst hg; exact Blk.new _ _ _
theorem GHrs.lower {w : World} {lo lo' n c : Nat} {A : Option Addr} {l : List HrV} (h : GHrs w lo A n c l) (hl : lo' ≤ lo) : GHrs w lo' A n c l := ⟨h.1.lower hl, fun a ha => (h.2.1 a ha).lower hl, h.2.2⟩
theorem GHrs.other {w w' : World} {lo n c : Nat} {A : Option Addr} {l : List HrV} (h : GHrs w lo A n c l) {lo' n' c' k' : Nat} {e' : TypeId} {A' : Option Addr} {xs : List Value} (ho : Own w lo' e' k' A' n' c' xs) (h1 : e' ≠ 146) (h2 : e' ≠ 148) (h3 : e' ≠ 150) (hg : w.grownBy w' (blkOf A')) : GHrs w' lo A n c l :=
 ⟨h.1.kept hg (fun _ e => Own.ne ho h.1.1 h1 e), fun a ha => (h.2.1 a ha).kept hg (fun _ e => Own.ne ho (h.2.1 a ha).2.1.1 h2 e) (fun _ e => Own.ne ho (h.2.1 a ha).2.2.1 h3 e), h.2.2⟩
theorem GCx.lower {w : World} {lo lo' n c : Nat} {A : Option Addr} {l : List CxV} (h : GCx w lo A n c l) (hl : lo' ≤ lo) : GCx w lo' A n c l := ⟨h.1.lower hl, fun a ha => (h.2.1 a ha).lower hl, h.2.2⟩
def CxB (w : World) (sb cb : Nat) (m : Int) (a : CxV) (wr : World) : Prop :=
 Str wr sb m ∧ w.grownBy wr (some sb) ∧ w.heap.size ≤ cb ∧ Blk wr cb 70 #[.string a.key, .slice a.rA a.rn a.rc, .slice a.iA a.en a.ic] ∧ CxOwn wr w.heap.size a
section
variable {w wr wx w8 : World} {sb cb : Nat} {m m' : Int} {a : CxV}
theorem CxB.rule1 (h : CxB w sb cb m a wr) (hsb : sb < w.heap.size) {r : RuV} (hr : RuOk r) {n1 : Nat} (hn : n1 = a.rn + 1) (hb : n1 ≤ 1000000) (hsx : Str wx sb m') (hgx : wr.grownBy wx (some sb)) {A1 : Option Addr} {c1 : Nat}
   (h8 : Appended wx w.heap.size 73 6 a.rA A1 n1 c1 (a.rules.flatMap RuV.row ++ r.row) w8) :
   CxB w sb cb m' { a with rA := A1, rn := n1, rc := c1, rules := a.rules ++ [r] } (w8.setCell ⟨cb, 1, none⟩ (.slice A1 n1 c1)) := by
 obtain ⟨_, hg, hp, hbk, ho⟩ := h
 have hox : CxOwn wx w.heap.size a := ho.low hgx (fun g e => by injection e with e; omega)
 have hbx := hbk.grown hgx (by simp; omega)
 have hb8 := hbx.grown h8.2.1 (Ne.symm (hox.2.1.1.blk_ne hbx (by decide)))
 have hg8 : w.grownBy w8 (some sb) := gr_own (gr_same hg hgx) hox.2.1.1 (Nat.le_refl _) h8.2.1
 have hz := hg8.size
 have hs8 : Str w8 sb m' := hsx.grown h8.2.1 (fun g e => by have := (hox.2.1.1.lt e).1; omega)
 refine ⟨hs8.setCell (by simp; omega) _, gr_setCell hg8 (.inr (by simp; omega)) _, hp, hb8.set_ 1 _, ⟨⟨hox.1.1.1, hb, hox.1.1.2.2⟩, fun x hx => ?_, hox.1.2.2⟩, ?_, ?_⟩
 · rcases List.mem_append.1 hx with hx | hx
   · exact hox.1.2.1 x hx
   · rw [List.mem_singleton.1 hx]; exact hr
 · have h9 := hox.2.1.app hn h8
   exact ⟨h9.1.far (h9.1.blk_ne hb8 (by decide)) _, h9.2⟩
 · have h9 := hox.2.2.kept h8.2.1 (fun g' e => Own.ne hox.2.1.1 hox.2.2.1 (by decide) e)
   exact ⟨h9.1.far (h9.1.blk_ne hb8 (by decide)) _, h9.2⟩
theorem CxB.step (h : CxB w sb cb m a wr) (hsb : sb < w.heap.size) (hsx : Str wx sb m') (hgx : wr.grownBy wx (some sb)) : CxB w sb cb m' a wx :=
 ⟨hsx, gr_same h.2.1 hgx, h.2.2.1, h.2.2.2.1.grown hgx (by have := h.2.2.1; simp; omega), h.2.2.2.2.low hgx (fun g e => by injection e with e; omega)⟩
end
section
variable {w w' : World} {lo n c g i p : Nat} {l : List CxV} {a : CxV}
theorem GCx.inc (h : GCx w lo (some ⟨g, 0, none⟩) n c l) (hi : l[i]? = some a) {iA : Option Addr} {en ic : Nat} {ins : List ByteArray} (ho : OwnR srow 1 w lo 9 iA en ic ins) (hen : en ≤ 1000000) (hs : ∀ s ∈ ins, s.size ≤ 1000000) (hp : p = i * 3 + 2) :
   GCx (w.setCell ⟨g, p, none⟩ (.slice iA en ic)) lo (some ⟨g, 0, none⟩) n c (l.set i { a with iA := iA, en := en, ic := ic, incs := ins }) := by
 have h1 := h.2.1 a (mem_of_get hi)
 refine GCx.put h.1 hi (j := 2) (by omega) rfl hp (fun k b _ hk => h.2.1 b (mem_of_get hk)) ⟨⟨⟨h1.1.1.1, h1.1.1.2.1, hen⟩, h1.1.2.1, hs⟩, h1.2.1, ho⟩ (fun k b hk hb => ?_) h.2.2
 exact ⟨h.2.2 i k a b (by omega) hi hb, h.2.2 k i b a hk hb hi⟩
theorem GCx.key (h : GCx w lo (some ⟨g, 0, none⟩) n c l) (hi : l[i]? = some a) {s : ByteArray} (hs : s.size ≤ 1000000) (hp : p = i * 3) : GCx (w.setCell ⟨g, p, none⟩ (.string s)) lo (some ⟨g, 0, none⟩) n c (l.set i { a with key := s }) := by
 have h1 := h.2.1 a (mem_of_get hi)
 refine GCx.put h.1 hi (j := 0) (by omega) rfl hp (fun k b _ hk => h.2.1 b (mem_of_get hk)) ⟨⟨⟨hs, h1.1.1.2⟩, h1.1.2⟩, h1.2⟩ (fun k b hk hb => ?_) h.2.2
 exact ⟨h.2.2 i k a b (by omega) hi hb, h.2.2 k i b a hk hb hi⟩
theorem GCx.rul (h : GCx w lo (some ⟨g, 0, none⟩) n c l) (hi : l[i]? = some a) {r : RuV} (hr : RuOk r) {n1 c1 : Nat} {A1 : Option Addr} (hn : n1 = a.rn + 1) (hb : n1 ≤ 1000000)
   (h8 : Appended w lo 73 6 a.rA A1 n1 c1 (a.rules.flatMap RuV.row ++ r.row) w') (hp : p = i * 3 + 1) :
   GCx (w'.setCell ⟨g, p, none⟩ (.slice A1 n1 c1)) lo (some ⟨g, 0, none⟩) n c (l.set i { a with rA := A1, rn := n1, rc := c1, rules := a.rules ++ [r] }) := by
 have h1 := h.2.1 a (mem_of_get hi)
 have hoth : ∀ (k : Nat) (b : CxV), k ≠ i → l[k]? = some b → CxOwn w' lo b := fun k b hk hb =>
   (h.2.1 b (mem_of_get hb)).kept h8.2.1 (fun q e => h.2.2 i k a b (by omega) hi hb q e) (fun q e => Own.ne h1.2.1.1 (h.2.1 b (mem_of_get hb)).2.2.1 (by decide) e)
 refine GCx.put (h.1.kept h8.2.1 (fun q e => Own.ne h1.2.1.1 h.1.1 (by decide) e)) hi (j := 1) (by omega) rfl hp hoth ⟨⟨⟨h1.1.1.1, hb, h1.1.1.2.2⟩, fun x hx => ?_, h1.1.2.2⟩, h1.2.1.app hn h8, h1.2.2.kept h8.2.1 (fun q e => Own.ne h1.2.1.1 h1.2.2.1 (by decide) e)⟩ (fun k b hk hb => ?_) h.2.2
 · rcases List.mem_append.1 hx with hx | hx
   · exact h1.1.2.1 x hx
   · rw [List.mem_singleton.1 hx]; exact hr
 · have q1 := h.2.2 i k a b (by omega) hi hb
   have hbl : ∀ q, blkOf b.rA = some q → q < w.heap.size := fun q e => ((h.2.1 b (mem_of_get hb)).2.1.1.lt e).2
   exact ⟨fun q e e' => by
     rcases h8.2.2 q e with e2 | e2
     · exact q1 q e2 e'
     · have := hbl q e'; omega, fun q e e' => by
     rcases h8.2.2 q e' with e2 | e2
     · exact q1 q e2 e
     · have := hbl q e; omega⟩
end
theorem GCx.rulN {w : World} {lo n c g i p : Nat} {l : List CxV} {a : CxV} (h : GCx w lo (some ⟨g, 0, none⟩) n c l) (hi : l[i]? = some a) {n1 c1 : Nat} {A1 : Option Addr} {rs : List RuV} (ho : OwnR RuV.row 6 w lo 73 A1 n1 c1 rs) (hb : n1 ≤ 1000000) (hr : ∀ r ∈ rs, RuOk r)
   (hf : ∀ q, blkOf A1 = some q → ∀ b ∈ l, blkOf b.rA ≠ some q) (hp : p = i * 3 + 1) : GCx (w.setCell ⟨g, p, none⟩ (.slice A1 n1 c1)) lo (some ⟨g, 0, none⟩) n c (l.set i { a with rA := A1, rn := n1, rc := c1, rules := rs }) := by
 have h1 := h.2.1 a (mem_of_get hi)
 refine GCx.put h.1 hi (j := 1) (by omega) rfl hp (fun k b _ hk => h.2.1 b (mem_of_get hk)) ⟨⟨⟨h1.1.1.1, hb, h1.1.1.2.2⟩, hr, h1.1.2.2⟩, ho, h1.2.2⟩ (fun k b hk hb => ?_) h.2.2
 exact ⟨fun q e e' => hf q e b (mem_of_get hb) e', fun q e e' => hf q e' b (mem_of_get hb) e⟩
theorem GCx.far {w : World} {lo n c q : Nat} {A : Option Addr} {l : List CxV} (h : GCx w lo A n c l) {t : TypeId} {cs : Array Value} (hb : Blk w q t cs) (h1 : 70 ≠ t) (h2 : 73 ≠ t) (h3 : 9 ≠ t) (j : Nat) (u : Value) : GCx (w.setCell ⟨q, j, none⟩ u) lo A n c l := by
 have hg : w.grownBy (w.setCell ⟨q, j, none⟩ u) (some q) := gr_setCell (gr_refl _ _) (.inl rfl) _
 exact ⟨h.1.kept hg (fun g e => by injection e with e; subst e; exact h.1.1.blk_ne hb h1), fun a ha => (h.2.1 a ha).kept hg (fun g e => by injection e with e; subst e; exact (h.2.1 a ha).2.1.1.blk_ne hb h2) (fun g e => by injection e with e; subst e; exact (h.2.1 a ha).2.2.1.blk_ne hb h3), h.2.2⟩
theorem Hrs.lowerP {w : World} {lo lo' n c : Nat} {A : Option Addr} {l : List HrV} (h : Hrs w lo A n c l) (hl : lo' ≤ lo) : Hrs w lo' A n c l := ⟨h.1.lower hl, fun a ha => ⟨(h.2 a ha).1, (h.2 a ha).2.1.lower hl, (h.2 a ha).2.2.lower hl⟩⟩
theorem cxCell1 {w : World} {lo n c g i : Nat} {l : List CxV} {a : CxV} (h : OwnR CxV.row 3 w lo 70 (some ⟨g, 0, none⟩) n c l) (hi : l[i]? = some a) : w.cell? ⟨g, i * 3 + 1, none⟩ = some (.slice a.rA a.rn a.rc) := by
 have h := h.recs.at_ CxV.row_len hi 1 _ rfl
 simpa using h
theorem cxCell2 {w : World} {lo n c g i : Nat} {l : List CxV} {a : CxV} (h : OwnR CxV.row 3 w lo 70 (some ⟨g, 0, none⟩) n c l) (hi : l[i]? = some a) : w.cell? ⟨g, i * 3 + 2, none⟩ = some (.slice a.iA a.en a.ic) := by
 have h := h.recs.at_ CxV.row_len hi 2 _ rfl
 simpa using h
theorem exec_load_all {P : Program} {w : World} {ty : TypeId} {n : Nat} (T : StructT P ty n) (x : Operand) {o : Oper} (ho : o.op = .load ty x) {ev : Operand → Value} {g : Nat} {t : TypeId} {cs : Array Value} (hx : ev x = .pointer (some ⟨g, 0, none⟩)) (hb : Blk w g t cs) (hn : cs.size = n) :
   (execOp ev o).run P w = .ok (.value (.agg cs)) w := by
 obtain ⟨d, h1, h2, h3⟩ := T
 unfold execOp
 simp only [ho, hx, Instr.loadAt, Instr.sureAddr, Sem.run_bind, Sem.run_pure, Result.andThen_ok, run_loadVar_row w g t ty cs (0, 0) d hb h1 (by cases d <;> first | rfl | (cases h2)) (by rw [hn]; exact h3)]
def InS (lo k : Nat) (v : Value) (w : World) : Prop := ∃ g ins, v = .slice (some ⟨g, 0, none⟩) k k ∧ OwnR srow 1 w lo 9 (some ⟨g, 0, none⟩) k k ins ∧ ∀ s ∈ ins, s.size ≤ 1000
theorem InS.grown {sb lo k : Nat} (hsb : sb < lo) {v : Value} {w w' : World} (h : InS lo k v w) (hg : w.grownBy w' (some sb)) : InS lo k v w' := by
 obtain ⟨g, ins, h1, h2, h3⟩ := h
 exact ⟨g, ins, h1, h2.low hg (fun g e => by injection e with e; omega), h3⟩
theorem InS.new (w : World) {lo : Nat} (hlo : lo ≤ w.heap.size) {k : Nat} (l : List ByteArray) (hk : l.length = k) (hm : k ≤ 1000) (hl : ∀ s ∈ l, s.size ≤ 1000) : InS lo k (.slice (some ⟨w.heap.size, 0, none⟩) k k) (w.alloc (.cells (l.flatMap srow).toArray 9)) := by
 subst hk
 have hs : l.length = (l.flatMap srow).length := by rw [flat_len (row := srow) (k := 1) (fun _ => rfl)]; omega
 have h := (Own.lit w 9 1 (l.flatMap srow) l.length (by unfold maxLen; omega) (by omega)).lower hlo
 exact ⟨_, l, rfl, ⟨h, rfl⟩, hl⟩
def InC (w : World) (lo : Nat) (v : Value) : Prop := ∃ (iA : Option Addr) (en ic : Nat) (ins : List ByteArray), v = .slice iA en ic ∧ OwnR srow 1 w lo 9 iA en ic ins ∧ (∀ s ∈ ins, s.size ≤ 1000) ∧ en ≤ 2
theorem InC.nil (w : World) (lo : Nat) : InC w lo (.slice none 0 0) := ⟨none, 0, 0, [], rfl, OwnR.nil _ _ _, (fun s hs => by cases hs), by omega⟩
theorem InC.of {w : World} {lo k : Nat} {v : Value} (h : InS lo k v w) (hk : k ≤ 2) : InC w lo v := by
 obtain ⟨g, ins, h1, h2, h3⟩ := h
 exact ⟨_, k, k, ins, h1, h2, h3, hk⟩
theorem InC.low {w w' : World} {lo : Nat} {v : Value} (h : InC w lo v) {r : Option Nat} (hg : w.grownBy w' r) (hr : ∀ g, r = some g → g < lo) : InC w' lo v := by
 obtain ⟨iA, en, ic, ins, h1, h2, h3, h4⟩ := h
 exact ⟨iA, en, ic, ins, h1, h2.low hg hr, h3, h4⟩
def InL (lo k : Nat) (v : Value) (w : World) : Prop := ∃ g cs, v = .slice (some ⟨g, 0, none⟩) k k ∧ lo ≤ g ∧ Blk w g 57 cs ∧ ∀ r : Nat, r < k → ∃ x, cs[r]? = some x ∧ InC w lo x
theorem InL.grown {sb lo k : Nat} (hsb : sb < lo) {v : Value} {w w' : World} (h : InL lo k v w) (hg : w.grownBy w' (some sb)) : InL lo k v w' := by
 obtain ⟨g, cs, h1, h0, h2, h3⟩ := h
 refine ⟨g, cs, h1, h0, h2.grown hg (by simp; omega), fun r hr => ?_⟩
 obtain ⟨x, hx, hc⟩ := h3 r hr
 exact ⟨x, hx, hc.low hg (fun g e => by injection e with e; omega)⟩
def InPt (lo : Nat) (v : Value) (w : World) : Prop := ∃ g cs r x, v = .pointer (some ⟨g, r, none⟩) ∧ lo ≤ g ∧ Blk w g 57 cs ∧ cs[r]? = some x ∧ InC w lo x
theorem InPt.grown {sb lo : Nat} (hsb : sb < lo) {v : Value} {w w' : World} (h : InPt lo v w) (hg : w.grownBy w' (some sb)) : InPt lo v w' := by
 obtain ⟨g, cs, r, x, h1, h0, h2, h3, h4⟩ := h
 exact ⟨g, cs, r, x, h1, h0, h2.grown hg (by simp; omega), h3, h4.low hg (fun g e => by injection e with e; omega)⟩
def InCV (lo : Nat) (v : Value) (w : World) : Prop := InC w lo v
def PtV (g i : Nat) (v : Value) (_ : World) : Prop := v = .pointer (some ⟨g, i, none⟩)
def NatV (k : Nat) (v : Value) (_ : World) : Prop := ∃ r : Nat, r < k ∧ v = .int .i64 r
end
end Go.Proofs.YteppdabhloieaaaGreatDoor
namespace Go.Proofs.YteppdabhloieaaaGreatDoor
section
open Go.RowKit
set_option maxHeartbeats 2000000 in
theorem indexI_any (lo : Nat) (A : Option Addr) (n c : Nat) (l : List Int) (s : Int) (w : World) (h : Recs nrow 1 w lo A n c l) (hn : n ≤ 1000000000) :
   Calls Tryz.prog 199 #[.slice A n c, .int .i64 s] w (Same (.int .i64 (idxP (fun x => s == x) l)) w) := by
 have H := Lib.hid h; clear h
 go_enter Tryz.func199, Tryz.ntmps199
 go_wp2_with fail
 go_loop [5, 8] (fun _ t => ∃ i : Nat, i ≤ n ∧ t = .int .i64 i ∧ (l.take i).all (fun x => !(s == x)) = true) (fun _ t => n - (intOf t).toNat)
 case atStart => exact ⟨0, Nat.zero_le _, rfl, rfl⟩
 case round =>
   obtain ⟨i, hi, rfl, ha⟩ := hrel
   have HA := Lib.hid ha; clear ha
   by_cases hlt : i < n
   · obtain ⟨g, o, x, rfl, _, hgl, hz, hcc⟩ := H.out.get nrow_len hlt
     have ks := hcc 0 _ rfl
     simp only [Nat.mul_one, Nat.add_zero] at ks
     have HZ := Lib.hid hz; clear hz hcc
     obtain ⟨E, hE⟩ : ∃ E, (s == x) = E := ⟨_, rfl⟩
     have HE := Lib.hid hE
     cases E
     · go_wp2_with fail
       go_round
       case rel => exact ⟨i + 1, by omega, by go_num, allP_succ (p := fun x : Int => s == x) HA.out HZ.out HE.out⟩
       case measure => simp [intOf]; omega
     · go_wp2_with fail
       go_ret
       exact ⟨by rw [idxP_some (p := fun x : Int => s == x) HA.out HZ.out HE.out]; try rfl, rfl⟩
   · obtain rfl : n = i := by omega
     go_wp2_with fail
     go_ret
     have h := HA.out
     rw [List.take_of_length_le (by rw [H.out.len]; exact Nat.le_refl _)] at h
     exact ⟨by rw [idxP_none (p := fun x : Int => s == x) h]; try rfl, rfl⟩
set_option maxHeartbeats 1000000 in
theorem containsI_any (lo : Nat) (A : Option Addr) (n c : Nat) (l : List Int) (s : Int) (w : World) (h : Recs nrow 1 w lo A n c l) (hn : n ≤ 1000000000) :
   Calls Tryz.prog 157 #[.slice A n c, .int .i64 s] w (Same (.bool (l.any (fun x => s == x))) w) := by
 have H := Lib.hid h; clear h
 obtain ⟨I, hI⟩ : ∃ I, idxP (fun x => s == x) l = I := ⟨_, rfl⟩
 have HI := Lib.hid (show decide (0 ≤ I) = l.any (fun x => s == x) by rw [← hI]; exact idxP_any)
 have HI2 := Lib.hid hI; clear hI
 go_enter Tryz.func157, Tryz.ntmps157
 go_wp2_with (first
   | (go_at_call 199; refine (indexI_any lo _ _ _ l s _ H.out hn).mono ?_; rintro e w2 ⟨rfl, rfl⟩; rw [HI2.out])
   | fail)
 go_ret
 exact ⟨by rw [← HI.out]; try rfl, rfl⟩
def ixI (l : List Nat) : List Int := l.map (fun x : Nat => (x : Int))
theorem ixI_mem (l : List Nat) (i : Nat) : (ixI l).any (fun x => (i : Int) == x) = decide (i ∈ l) := by
 unfold ixI
 rw [Bool.eq_iff_iff, List.any_map, List.any_eq_true, decide_eq_true_eq]
 constructor
 · rintro ⟨x, hx, hp⟩
   simp at hp
   have : i = x := by omega
   exact this ▸ hx
 · intro h; exact ⟨i, h, by simp⟩
theorem ixI_snoc (l : List Nat) (i : Nat) : ixI (l ++ [i]) = ixI l ++ [(i : Int)] := by unfold ixI; rw [List.map_append]; rfl
theorem ixI_len (l : List Nat) : (ixI l).length = l.length := by unfold ixI; rw [List.length_map]
structure OrderV (S : Nat → List Nat) (L n0 : Nat) (A : Option Addr) (i : Nat) (out : List Nat) (w : World) (e : Ending) (w' : World) (A' : Option Addr) (n' c' : Nat) (r : List Nat) : Prop where
 e : e = .returned (.slice A' n' c')
 own : OwnR nrow 1 w' L 3 A' n' c' (ixI r)
 gr : w.grownBy w' (blkOf A)
 new : ∀ g, blkOf A' = some g → blkOf A = some g ∨ w.heap.size ≤ g
 ord : Ord S [i] out r
 nd : r.Nodup
 bd : ∀ x ∈ r, x < n0
def OrderE (S : Nat → List Nat) (L n0 : Nat) (A : Option Addr) (i : Nat) (out : List Nat) (w : World) (e : Ending) (w' : World) : Prop := ∃ A' n' c' r, OrderV S L n0 A i out w e w' A' n' c' r
structure OrdIn (S : Nat → List Nat) (w0 w : World) (L n0 pb : Nat) (A : Option Addr) (is out : List Nat) (wr : World) (A' : Option Addr) (n' c' : Nat) (cur : List Nat) : Prop where
 g0 : w0.grownBy wr none
 own : OwnR nrow 1 wr L 3 A' n' c' (ixI cur)
 gr : w.grownBy wr (blkOf A)
 new : ∀ g, blkOf A' = some g → blkOf A = some g ∨ w.heap.size ≤ g
 ord : Ord S is out cur
 nd : cur.Nodup
 bd : ∀ x ∈ cur, x < n0
 len : out.length ≤ cur.length
set_option maxHeartbeats 8000000 in
set_option maxRecDepth 100000 in
theorem order_any (lo : Nat) (p : PlV) (w0 : World) (h0 : PlOk w0 lo p) (hm : misB p.ctxs = false) (hcn : p.cn ≤ 50) :
   ∀ (m : Nat) (out : List Nat) (i : Nat) (A : Option Addr) (n c : Nat) (w : World), p.cn ≤ out.length + m → w0.grownBy w none → OwnR nrow 1 w w0.heap.size 3 A n c (ixI out) → out.Nodup → (∀ x ∈ out, x < p.cn) → i < p.cn →
   Calls Tryz.prog 111 #[.agg #[.slice p.cA p.cn p.cc, .slice p.hA p.hn p.hc], .int .i64 i, .slice A n c] w (OrderE (incIx p.ctxs) w0.heap.size p.cn A i out w) := by
 obtain ⟨cA, cn, cc, hA, hn, hc, ctxs, hours⟩ := p
 have hlen := h0.ctxs.len
 dsimp only at hlen hcn
 have H0 := Lib.hid h0; have HM := Lib.hid hm; have HLEN := Lib.hid hlen
 clear h0 hm hlen
 intro m
 induction m with
 | zero => ?_
 | succ m ih => ?_
 all_goals
   intro out i A n c w hm hg ho hnd hbd hi
   dsimp only at hm hbd hi
   have HG0 := Lib.hid hg; have HO := Lib.hid ho; have HND := Lib.hid hnd; have HBD := Lib.hid hbd
   have hz0 := hg.size
   have hn50 : n ≤ 50 := by
     have h1 := nodup_le hnd hbd
     have h2 := ho.2
     rw [ixI_len] at h2
     omega
   have hnl : n = out.length := by
     have h2 := ho.2
     rw [ixI_len] at h2
     omega
   have hnot : ¬ i ∈ out → out.length < cn := fun h => by
     have := nodup_le (nodup_snoc hnd h) (n := cn) (fun x hx => by
       rcases List.mem_append.1 hx with e | e
       · exact hbd x e
       · rw [List.mem_singleton.1 e]; exact hi)
     simp at this
     omega
   have HNOT := Lib.hid hnot
   have HNL := Lib.hid hnl
   clear hg ho hnd hbd hnot hnl
   obtain ⟨W1, hW⟩ : ∃ W1, w.alloc (.cells #[.slice cA cn cc, .slice hA hn hc] 29) = W1 := ⟨_, rfl⟩
   have HP := Lib.hid (show Blk W1 w.heap.size 29 #[.slice cA cn cc, .slice hA hn hc] by rw [← hW]; exact Blk.new _ _ _)
   have hg1 : w.grownBy W1 none := by rw [← hW]; exact gr_alloc (gr_refl _ _) _
   have HO1 := Lib.hid (HO.out.low hg1 gn_)
   have HG1 := Lib.hid hg1
   have HW := Lib.hid hW
   clear hW hg1
   go_enter Tryz.func111, Tryz.ntmps111
   go_upto_region 1 with (fail)
   rw [HW.out]
   clear HW
   go_wp2_with fail
   refine (containsI_any _ A n c (ixI out) i _ HO1.out.recs (by omega)).mono ?_
   rintro e w' ⟨rfl, rfl⟩
   rw [ixI_mem]
   by_cases hio : i ∈ out
   · rw [decide_eq_true hio]
     have HI := Lib.hid hio; clear hio
     go_wp2_with fail
     go_ret
     exact ⟨A, n, c, out, rfl, HO1.out, gr_none (gr_refl _ _) HG1.out, fun g e => .inl e, .skip HI.out .nil, HND.out, HBD.out⟩
 · exfalso
   have := HNOT.out hio
   omega
 · rw [decide_eq_false hio]
   have HNI := Lib.hid hio
   have hlt := HNOT.out hio
   have hm2 : cn ≤ out.length + 1 + m := by omega
   have hi2 : (i : Int) < (cn : Int) := by omega
   clear hio
   have zw := HG1.out.size
   go_upto_region 4 with (first
     | (at_builtin
        refine wpl_app _ rfl _ _ Tryz.inT rfl w0.heap.size A n c _ rfl (by exact HO1.out.1.alloc _) _ _ 1 1 [.int .i64 i] rfl (by exact Reads.one _ _ _ _ rfl) (by simp [Value.oneCell']) (by unfold maxLen; omega) (by omega) (by simp; omega) ?_
        intro A5 c5 w5 h5
        have H5 := Lib.hid h5; clear h5)
     | fail)
   have ha1 := HO1.out.alloc (.cells #[.int .i64 i] 3)
   have hb1 := HP.out.alloc (.cells #[.int .i64 i] 3)
   have HO5 := Lib.hid (show OwnR nrow 1 w5 w0.heap.size 3 A5 (n + 1) c5 (ixI (out ++ [i])) by rw [ixI_snoc]; exact ha1.app rfl H5.out)
   have HP5 := Lib.hid (hb1.grown H5.out.2.1 (Ne.symm (ha1.1.blk_ne hb1 (by decide))))
   have HG5 := Lib.hid (show w0.grownBy w5 none from H5.out.gr (gr_alloc (gr_none HG0.out HG1.out) _) ha1.1 (Nat.le_refl _))
   have HIN := Lib.hid (show OrdIn (incIx ctxs) w0 w w0.heap.size cn w.heap.size A ((incIx ctxs i).take 0) (out ++ [i]) w5 A5 (n + 1) c5 (out ++ [i]) from
     ⟨HG5.out, HO5.out, gr_trans (gr_none (gr_refl _ _) (gr_alloc HG1.out _)) H5.out.2.1 (fun g e => .inl e.symm), fun g e => (H5.out.2.2 g e).elim .inl (fun q => .inr (by simp at q; omega)), by rw [List.take_zero]; exact .nil, nodup_snoc HND.out HNI.out, fun x hx => by
       rcases List.mem_append.1 hx with e | e
       · exact HBD.out x e
       · rw [List.mem_singleton.1 e]; exact hi, Nat.le_refl _⟩)
   clear ha1 hb1 HO5 H5 HO1 HP HG1
   obtain ⟨⟨key, rA, rn, rc, iA, en, ic, rules, incs⟩, hzc⟩ : ∃ z, ctxs[i]? = some z := ⟨_, List.getElem?_eq_getElem (by rw [HLEN.out]; exact hi)⟩
   have HZC := Lib.hid hzc; clear hzc
   have HPL := Lib.hid (H0.out.grown HG5.out gn_)
   obtain ⟨g, o, z', hcA, _, hgl, hz', hcc⟩ := HPL.out.ctxs.get CxV.row_len hi
   dsimp only at hcA hz'
   obtain rfl : ⟨key, rA, rn, rc, iA, en, ic, rules, incs⟩ = z' := by rw [HZC.out] at hz'; injection hz'
   subst hcA
   have ki := hcc 2 _ rfl
   clear hz' hcc
   have hen : en ≤ 1000000 := (H0.out.cok _ (mem_of_get HZC.out)).en
   have kp := HP5.out.cell 0
   go_wp2_with fail
   clear kp ki HPL HG5
   obtain ⟨wv, rfl⟩ : ∃ wv : World, wv = w5 := ⟨_, rfl⟩
   go_loopw [2, 8, 24] (fun v _ t wr => ∃ (j : Nat) (cur : List Nat) (A' : Option Addr) (n' c' : Nat), j ≤ en ∧ t = .int .i64 j ∧ v = .slice A' n' c' ∧ Blk wr w.heap.size 29 #[.slice (some ⟨g, o, none⟩) cn cc, .slice hA hn hc] ∧ OrdIn (incIx ctxs) w0 w w0.heap.size cn w.heap.size A ((incIx ctxs i).take j) (out ++ [i]) wr A' n' c' cur) (fun _ _ t _ => en - (intOf t).toNat)
   case atStart => exact ⟨0, out ++ [i], A5, n + 1, c5, Nat.zero_le _, rfl, rfl, HP5.out, HIN.out⟩
   case round =>
     clear HP5 HIN
     obtain ⟨j, cur, A', n', c', hj, rfl, rfl, hp, hin⟩ := hrel
     have HP := Lib.hid hp; have HIN := Lib.hid hin
     have HC := Lib.hid ((H0.out.cok _ (mem_of_get HZC.out)).grown hin.g0 gn_)
     clear hp hin
     by_cases hlt2 : j < en
     · obtain ⟨g', o', s, hiA, _, hgl', hz', hcc'⟩ := HC.out.incs.get srow_len hlt2
       dsimp only at hiA hz'
       subst hiA
       have ks := hcc' 0 _ rfl
       simp only [Nat.mul_one, Nat.add_zero] at ks
       have HZ2 := Lib.hid hz'
       have hjj : (j : Int) < (en : Int) := by omega
       obtain ⟨q, y, hq, hy, hyk⟩ := cxIx_some (mis_no HM.out HZC.out (mem_of_get hz'))
       have HQ := Lib.hid hq
       have HTK := Lib.hid (show (incIx ctxs i).take (j + 1) = (incIx ctxs i).take j ++ [q] by
         refine take_snoc' ?_
         rw [incIx_at HZC.out, List.getElem?_map]
         dsimp only
         rw [hz']; simp [hq])
       have hqn : q < cn := by have := (List.getElem?_eq_some_iff.1 hy).1; rw [HLEN.out] at this; exact this
       clear hz' hcc' hq hy hyk
       go_upto_region 7 with (fail)
       refine H_begin (fun w' => Blk w' w.heap.size 29 #[.slice (some ⟨g, o, none⟩) cn cc, .slice hA hn hc]) (by kernel_rfl) ?_
       have hHeld : Blk wr.drew w.heap.size 29 #[.slice (some ⟨g, o, none⟩) cn cc, .slice hA hn hc] := HP.out.drew
       refine H_take (k := 0) (v := .agg #[.slice (some ⟨g, o, none⟩) cn cc, .slice hA hn hc]) (by rfl) (by kernel_rfl) (by kernel_rfl) (by kernel_rfl) (by exact fun _ _ _ h => h) (by rfl) (fun w' hSw => exec_load_blk' Tryz.plT _ rfl _ rfl 29 [.slice (some ⟨g, o, none⟩) cn cc, .slice hA hn hc] hSw rfl) hHeld ?_
       (try simp only [Act.put, l1_, l2_, l3_])
       refine H_take (k := 1) (v := .agg #[.slice (some ⟨g, o, none⟩) cn cc, .slice hA hn hc]) (by rfl) (by kernel_rfl) (by kernel_rfl) (by kernel_rfl) (by exact fun _ _ _ h => h) (by rfl) (fun w' hSw => exec_load_blk' Tryz.plT _ rfl _ rfl 29 [.slice (some ⟨g, o, none⟩) cn cc, .slice hA hn hc] hSw rfl) hHeld ?_
       (try simp only [Act.put, l1_, l2_, l3_])
       refine H_take (k := 2) (v := ?_) (by rfl) (by kernel_rfl) (by kernel_rfl) (by kernel_rfl) (by exact fun _ _ _ h => h) (by rfl) ?_ (by assumption) ?_
       rotate_left 1
       · intro w hSw
         (try dsimp only at hSw)
         go_simp
         (try with_reducible rfl)
       (try simp only [Act.put, l1_, l2_, l3_])
       refine H_take (k := 4) (v := ?_) (by rfl) (by kernel_rfl) (by kernel_rfl) (by kernel_rfl) (by exact fun _ _ _ h => h) (by rfl) ?_ (by assumption) ?_
       rotate_left 1
       · intro w hSw
         (try dsimp only at hSw)
         go_simp
         (try with_reducible rfl)
       (try simp only [Act.put, l1_, l2_, l3_])
       refine H_run (k := 3) (by rfl) (by kernel_rfl) (by rfl) (fun K hK => ?_)
       go_simp
       refine (contextAt_any lo ⟨some ⟨g, o, none⟩, cn, cc, hA, hn, hc, ctxs, hours⟩ s _ (H0.out.ctxs.grown (gr_drew HIN.out.g0) gn_) (by dsimp only; omega)).mono ?_
       rintro e w6 ⟨rfl, hg6'⟩
       dsimp only
       rw [HQ.out]
       have hg6 := gr_none (gr_drew (gr_refl wr none)) hg6'
       have hb6 := HP.out.grown hg6 (by simp)
       have HO6 := Lib.hid (HIN.out.own.low hg6 gn_)
       have HG6 := Lib.hid hg6
       refine hK _ _ hb6 ?_
       clear hK K hHeld hg6'
       have hHeld := hb6
       have HP6 := Lib.hid hb6
       clear hb6 hg6
       refine H_run (k := 5) (by rfl) (by kernel_rfl) (by rfl) (fun K hK => ?_)
       go_simp
       refine (ih cur q A' n' c' _ (by have := HIN.out.len; rw [List.length_append] at this; simp at this; omega) (gr_none HIN.out.g0 HG6.out) HO6.out HIN.out.nd HIN.out.bd hqn).mono ?_
       rintro e w7 ⟨A7, n7, c7, r7, hv7⟩
       obtain rfl := hv7.e
       have hb7 := HP6.out.grown hv7.gr (Ne.symm (HO6.out.1.blk_ne HP6.out (by decide)))
       have HV7 := Lib.hid hv7
       refine hK _ _ hb7 ?_
       clear hK K hHeld hv7
       have hHeld := hb7
       refine H_take (k := 6) (v := ?_) (by rfl) (by kernel_rfl) (by kernel_rfl) (by kernel_rfl) (by exact fun _ _ _ h => h) (by rfl) ?_ (by assumption) ?_
       rotate_left 1
       · intro w hSw
         (try dsimp only at hSw)
         go_simp
         (try with_reducible rfl)
       (try simp only [Act.put, l1_, l2_, l3_])
       refine H_done (by kernel_rfl) ?_
       have HP7 := Lib.hid hHeld
       clear hHeld hb7
       have HIN7 := Lib.hid (show OrdIn (incIx ctxs) w0 w w0.heap.size cn w.heap.size A ((incIx ctxs i).take (j + 1)) (out ++ [i]) w7 A7 n7 c7 r7 from
         ⟨gr_trans (gr_none HIN.out.g0 HG6.out) HV7.out.gr (fun g e => .inr (HO6.out.1.lt e).1), HV7.out.own, gr_trans (gr_none HIN.out.gr HG6.out) HV7.out.gr (fun g e => (HIN.out.new g e).elim (fun q => .inl q.symm) .inr), fun g e => (HV7.out.new g e).elim (HIN.out.new g) (fun q => .inr (by have := (gr_none HIN.out.gr HG6.out).size; omega)), by rw [HTK.out]; exact HIN.out.ord.app HV7.out.ord, HV7.out.nd, HV7.out.bd, Nat.le_trans HIN.out.len (Ord.len HV7.out.ord)⟩)
       go_wp2_with fail
       go_roundw
       case rel => exact ⟨j + 1, r7, A7, n7, c7, by omega, by go_num, rfl, HP7.out, HIN7.out⟩
       case measure => simp [intOf]; omega
     · obtain rfl : en = j := by omega
       have HFIN := Lib.hid (show Ord (incIx ctxs) [i] out cur from .one HNI.out (by
         have h := HIN.out.ord
         rw [List.take_of_length_le (by rw [incIx_at HZC.out, List.length_map]; have := HC.out.incs.len; dsimp only at this ⊢; omega)] at h
         exact h))
       go_wp2_with fail
       go_ret
       exact ⟨A', n', c', cur, rfl, HIN.out.own, HIN.out.gr, HIN.out.new, HFIN.out, HIN.out.nd, HIN.out.bd⟩
end
end Go.Proofs.YteppdabhloieaaaGreatDoor
namespace Go.Proofs.YteppdabhloieaaaGreatDoor
section
open Go.RowKit
theorem Tryz.cxsT : ElemT Tryz.prog 26 70 3 64 (.agg #[.string ⟨#[]⟩, .slice none 0 0, .slice none 0 0]) := elemT_of Tryz.underlying26 (by kernel_rfl) rfl (by decide)
def pickC (l : List CxV) (is : List Nat) : List CxV := is.filterMap fun i => l[i]?
theorem pickC_snoc (l : List CxV) (is : List Nat) {k : Nat} {z : CxV} (h : l[k]? = some z) : pickC l (is ++ [k]) = pickC l is ++ [z] := by unfold pickC; rw [List.filterMap_append]; simp [h]
theorem pickC_len {l : List CxV} : ∀ {is : List Nat}, (∀ x ∈ is, x < l.length) → (pickC l is).length = is.length
 | [], _ => rfl
 | i :: is, h => by
   have hi : i < l.length := h i (by simp)
   have ih := pickC_len (l := l) (is := is) (fun x hx => h x (by simp [hx]))
   unfold pickC at ih ⊢
   rw [List.filterMap_cons, List.getElem?_eq_getElem hi, List.length_cons, List.length_cons, ih]
theorem pickC_mem {l : List CxV} {is : List Nat} {z : CxV} (h : z ∈ pickC l is) : z ∈ l := by
 unfold pickC at h
 obtain ⟨i, _, hi⟩ := List.mem_filterMap.1 h
 exact mem_of_get hi
def opE (p : PlV) (LB : Bool) (key : ByteArray) : Int := if plE p LB = 0 then (if cxIx p.ctxs key < 0 then 8 else 0) else plE p LB
structure OrdOk (p : PlV) (key : ByteArray) (r : List Nat) : Prop where
 at_ : ∃ (i : Nat) (z : CxV), p.ctxs[i]? = some z ∧ nb z.key = nb key ∧ cxIx p.ctxs key = i ∧ Ord (incIx p.ctxs) [i] [] r
 nd : r.Nodup
 bd : ∀ x ∈ r, x < p.ctxs.length
theorem OrdOk.det {p : PlV} {key : ByteArray} {r r' : List Nat} (h : OrdOk p key r) (h' : OrdOk p key r') : r = r' := by
 obtain ⟨i, z, _, _, e, h1⟩ := h.at_
 obtain ⟨j, y, _, _, e', h2⟩ := h'.at_
 obtain rfl : i = j := by omega
 exact h1.det h2
def OpenV (p : PlV) (LB : Bool) (key : ByteArray) (w : World) (e : Ending) (w' : World) : Prop :=
 ∃ (A : Option Addr) (n c : Nat) (r : List Nat), e = .returned (.tuple #[.slice A n c, .int .i64 (opE p LB key)]) ∧ OwnR CxV.row 3 w' w.heap.size 70 A n c (pickC p.ctxs r) ∧ w.grownBy w' none ∧ (opE p LB key = 0 → OrdOk p key r) ∧ (opE p LB key ≠ 0 → r = []) ∧ n ≤ 50
set_option maxHeartbeats 8000000 in
set_option maxRecDepth 100000 in
theorem open_any (lo : Nat) (p : PlV) (LB : Bool) (key : ByteArray) (w : World) (h : PlOk w lo p) (hLB : LB = true ↔ Loops p.ctxs) :
   Calls Tryz.prog 50 #[.agg #[.slice p.cA p.cn p.cc, .slice p.hA p.hn p.hc], .string key] w (OpenV p LB key w) := by
 obtain ⟨cA, cn, cc, hA, hn, hc, ctxs, hours⟩ := p
 have hcn : cn ≤ 1000000 := h.cn
 have hlen := h.ctxs.len
 dsimp only at hlen hLB ⊢
 obtain ⟨W1, hW⟩ : ∃ W1, w.alloc (.cells #[.slice cA cn cc, .slice hA hn hc] 29) = W1 := ⟨_, rfl⟩
 have HP := Lib.hid (show Blk W1 w.heap.size 29 #[.slice cA cn cc, .slice hA hn hc] by rw [← hW]; exact Blk.new _ _ _)
 have HG := Lib.hid (show w.grownBy W1 none by rw [← hW]; exact gr_alloc (gr_refl _ _) _)
 have HPL := Lib.hid (h.grown HG.out gn_)
 have HW := Lib.hid hW
 have HLB := Lib.hid hLB
 have HLEN := Lib.hid hlen
 have H0 := Lib.hid h
 clear h hW hLB hlen
 obtain ⟨E0, hE0⟩ : ∃ E, plE ⟨cA, cn, cc, hA, hn, hc, ctxs, hours⟩ LB = E := ⟨_, rfl⟩
 have HE0 := Lib.hid hE0; clear hE0
 go_enter Tryz.func50, Tryz.ntmps50
 go_upto_region 1 with (fail)
 rw [HW.out]
 go_wp2_with (first
   | (refine wpl_load_all Tryz.plT rfl _ rfl _ rfl _ _ HP.out rfl ?_)
   | fail)
 refine (checkPlan_any lo ⟨cA, cn, cc, hA, hn, hc, ctxs, hours⟩ LB _ HPL.out HLB.out).mono ?_
 rintro e w2 ⟨rfl, hg2⟩
 rw [HE0.out]
 replace HP := Lib.hid (HP.out.grown hg2 (by simp))
 replace HPL := Lib.hid (HPL.out.grown hg2 gn_)
 replace HG := Lib.hid (gr_none HG.out hg2)
 clear hg2
 by_cases e0 : E0 = 0
 · have dE : (E0 != 0) = false := by simpa using e0
   obtain ⟨r1, r2, r3, r4, r5⟩ := plE_right (HE0.out.trans e0)
   dsimp only at r2 r4
   have HM := Lib.hid r4
   obtain ⟨I, hI⟩ : ∃ I, cxIx ctxs key = I := ⟨_, rfl⟩
   have HI := Lib.hid hI
   have HV := Lib.hid (show opE ⟨cA, cn, cc, hA, hn, hc, ctxs, hours⟩ LB key = if I < 0 then 8 else 0 by unfold opE; dsimp only; rw [if_pos (HE0.out.trans e0), hI])
   clear r1 r3 r4 r5 hI
   go_wp2_with (first
     | (refine wpl_load_all Tryz.plT rfl _ rfl _ rfl _ _ HP.out rfl ?_)
     | fail)
   refine (contextAt_any lo ⟨cA, cn, cc, hA, hn, hc, ctxs, hours⟩ key _ HPL.out.ctxs hcn).mono ?_
   rintro e w3 ⟨rfl, hg3⟩
   dsimp only
   rw [HI.out]
   replace HP := Lib.hid (HP.out.grown hg3 (by simp))
   replace HPL := Lib.hid (HPL.out.grown hg3 gn_)
   replace HG := Lib.hid (gr_none HG.out hg3)
   clear hg3
   by_cases hI0 : I < 0
   · have dI : decide (I < 0) = true := decide_eq_true hI0
     rw [if_pos hI0] at HV
     go_wp2_with fail
     go_ret2
     exact ⟨none, 0, 0, [], by rw [HV.out]; try rfl, OwnR.nil _ _ _, HG.out, (fun e => by rw [HV.out] at e; exact absurd e (by decide)), fun _ => rfl, by omega⟩
   · have dI : decide (I < 0) = false := decide_eq_false hI0
     rw [if_neg hI0] at HV
     obtain ⟨i, z, hi1, hi2, hi3⟩ := cxIx_some (l := ctxs) (s := key) (by rw [HI.out]; omega)
     obtain rfl : I = i := HI.out.symm.trans hi1
     have hin : i < cn := by rw [← HLEN.out]; exact (List.getElem?_eq_some_iff.1 hi2).1
     have HZ := Lib.hid hi2; have HK := Lib.hid hi3
     clear hi1 hi2 hi3 hI0
     go_wp2_with (first
       | (refine wpl_load_all Tryz.plT rfl _ rfl _ rfl _ _ HP.out rfl ?_)
       | fail)
     refine (order_any lo ⟨cA, cn, cc, hA, hn, hc, ctxs, hours⟩ w H0.out HM.out r2 cn [] i none 0 0 _ (by simp) HG.out (OwnR.nil _ _ _) List.nodup_nil (fun x hx => by cases hx) hin).mono ?_
     rintro e w4 ⟨B, m, d, r, hv⟩
     obtain rfl := hv.e
     have hg4 : w3.grownBy w4 none := hv.gr
     have HOB := Lib.hid hv.own
     have HOK := Lib.hid (show OrdOk ⟨cA, cn, cc, hA, hn, hc, ctxs, hours⟩ key r from ⟨⟨i, z, HZ.out, HK.out, HI.out, hv.ord⟩, hv.nd, fun x hx => by dsimp only; rw [HLEN.out]; exact hv.bd x hx⟩)
     have hm50 : m ≤ 50 := by
       have h1 := nodup_le hv.nd hv.bd
       have h2 := hv.own.2
       rw [ixI_len] at h2
       dsimp only at h1
       omega
     have hml : r.length = m := by have h2 := hv.own.2; rw [ixI_len] at h2; exact h2
     have HML := Lib.hid hml
     clear hv hml
     replace HP := Lib.hid (HP.out.grown hg4 (by simp))
     replace HPL := Lib.hid (HPL.out.grown hg4 gn_)
     replace HG := Lib.hid (gr_none HG.out hg4)
     clear hg4
     go_wp2_with fail
     go_loopw [8, 10, 25] (fun v _ t wr => ∃ (k : Nat) (A : Option Addr) (c : Nat), k ≤ m ∧ t = .int .i64 k ∧ v = .slice A k c ∧ w.grownBy wr none ∧ Blk wr w.heap.size 29 #[.slice cA cn cc, .slice hA hn hc] ∧ PlOk wr lo ⟨cA, cn, cc, hA, hn, hc, ctxs, hours⟩ ∧ OwnR nrow 1 wr w.heap.size 3 B m d (ixI r) ∧ OwnR CxV.row 3 wr w.heap.size 70 A k c (pickC ctxs (r.take k))) (fun _ _ t _ => m - (intOf t).toNat)
     case atStart => exact ⟨0, none, 0, Nat.zero_le _, rfl, rfl, HG.out, HP.out, HPL.out, HOB.out, OwnR.nil _ _ _⟩
     case round =>
       clear HG HP HPL HOB
       obtain ⟨k, A, c, hk, rfl, rfl, hg, hp, hpl, hob, hoa⟩ := hrel
       have HG := Lib.hid hg; have HP := Lib.hid hp; have HPL := Lib.hid hpl; have HOB := Lib.hid hob; have HOA := Lib.hid hoa
       have zw := hg.size
       clear hg hp hpl hob hoa
       by_cases hlt : k < m
       · obtain ⟨g1, o1, x, hBA, _, hg1, hx, hcx⟩ := HOB.out.recs.get nrow_len hlt
         subst hBA
         obtain ⟨q, hq, hxq⟩ : ∃ q, r[k]? = some q ∧ x = (q : Int) := by
           unfold ixI at hx
           rw [List.getElem?_map] at hx
           cases hr : r[k]? with
           | none => rw [hr] at hx; cases hx
           | some q => rw [hr] at hx; injection hx with hx; exact ⟨q, rfl, hx.symm⟩
         subst hxq
         have kx := hcx 0 _ rfl
         simp only [Nat.mul_one, Nat.add_zero] at kx
         have hqn : q < cn := by rw [← HLEN.out]; exact HOK.out.bd q (mem_of_get hq)
         have hqn2 : (q : Int) < (cn : Int) := by omega
         have HTK := Lib.hid (take_snoc' hq)
         clear hx hcx hq
         obtain ⟨g, o, y, hcA, _, hgl, hy, hcc⟩ := HPL.out.ctxs.get CxV.row_len hqn
         dsimp only at hcA hy
         subst hcA
         have HCC := Lib.hid hcc; have HY := Lib.hid hy
         clear hcc hy
         have k0 := HP.out.cell 0
         go_wp2_with (first
           | (refine wpl_load_at Tryz.cxT rfl _ rfl _ rfl [.string y.key, .slice y.rA y.rn y.rc, .slice y.iA y.en y.ic] rfl (fun j u hu => by rw [add_mk]; exact HCC.out j u hu) ?_)
           | (at_builtin
              refine wpl_app _ rfl _ _ Tryz.cxsT rfl w.heap.size A k c _ rfl (by exact HOA.out.1.alloc _) _ _ 1 1 [.string y.key, .slice y.rA y.rn y.rc, .slice y.iA y.en y.ic] rfl (by exact Reads.one _ _ _ _ rfl) (by simp [Value.oneCell']) (by unfold maxLen; omega) (by omega) (by simp; omega) ?_
              intro A5 c5 w5 h5
              have H5 := Lib.hid h5; clear h5)
           | fail)
         go_roundw
         case rel =>
           have ha1 := HOA.out.alloc (.cells #[.string y.key, .slice y.rA y.rn y.rc, .slice y.iA y.en y.ic] 70)
           have hb1 := HP.out.alloc (.cells #[.string y.key, .slice y.rA y.rn y.rc, .slice y.iA y.en y.ic] 70)
           have hg5 : w.grownBy w5 none := H5.out.gr (gr_alloc HG.out _) ha1.1 (Nat.le_refl _)
           exact ⟨k + 1, A5, c5, by omega, by go_num, rfl, hg5, hb1.grown H5.out.2.1 (Ne.symm (ha1.1.blk_ne hb1 (by decide))), H0.out.grown hg5 gn_, (HOB.out.alloc _).kept H5.out.2.1 (fun g e => Own.ne ha1.1 (HOB.out.alloc (.cells #[.string y.key, .slice y.rA y.rn y.rc, .slice y.iA y.en y.ic] 70)).1 (by decide) e), by rw [HTK.out, pickC_snoc ctxs _ HY.out]; exact ha1.app rfl H5.out⟩
         case measure => simp [intOf]; omega
       · obtain rfl : m = k := by omega
         have HR := Lib.hid (show r.take m = r by rw [List.take_of_length_le (by rw [HML.out]; exact Nat.le_refl _)])
         rw [HR.out] at HOA
         go_wp2_with fail
         go_ret2
         exact ⟨A, m, c, r, by rw [HV.out]; try rfl, HOA.out, HG.out, fun _ => HOK.out, fun e => absurd HV.out e, hm50⟩
 · have dE : (E0 != 0) = true := by simpa using e0
   have HV := Lib.hid (show opE ⟨cA, cn, cc, hA, hn, hc, ctxs, hours⟩ LB key = E0 by unfold opE; rw [if_neg (by rw [HE0.out]; exact e0), HE0.out])
   go_wp2_with fail
   go_ret2
   exact ⟨none, 0, 0, [], by rw [HV.out]; try rfl, OwnR.nil _ _ _, HG.out, (fun e => by rw [HV.out] at e; exact absurd e e0), fun _ => rfl, by omega⟩
end
end Go.Proofs.YteppdabhloieaaaGreatDoor
namespace Go.Proofs.YteppdabhloieaaaGreatDoor
section
open Go.RowKit
set_option maxHeartbeats 2000000 in
theorem hrC_any (c : HrV) (key : ByteArray) (kb : Nat) (w : World) (hk : Blk w kb 9 #[.string key]) :
   Calls Tryz.prog 108 #[.agg #[.string c.key, .int .i64 c.zone, .slice c.rA c.rn c.rc, .slice c.hA c.hn c.hc], .pointer (some ⟨kb, 0, none⟩)] w (RetV (.bool (nb c.key == nb key)) w) := by
 have kk := (hk.alloc (.cells #[.string c.key, .int .i64 c.zone, .slice c.rA c.rn c.rc, .slice c.hA c.hn c.hc] 146)).cell 0
 have hlt1 := hk.lt
 obtain ⟨E, hE⟩ : ∃ E, (c.key.toList == key.toList) = E := ⟨_, rfl⟩
 have HV := Lib.hid (show (nb c.key == nb key) = E by rw [← eqS_nb, hE])
 clear hk
 cases E
 all_goals
   go_enter Tryz.func108, Tryz.ntmps108
   go_wp2_with fail
   go_ret
   exact ⟨by rw [HV.out]; try rfl, gr_alloc (gr_refl _ _) _⟩
set_option maxHeartbeats 4000000 in
theorem hrCIdx_any (lo : Nat) (A : Option Addr) (n c : Nat) (l : List HrV) (key : ByteArray) (kb : Nat) (w : World) (h : Recs HrV.row 4 w lo A n c l) (hn : n ≤ 1000000000000) (h_k : Blk w kb 9 #[.string key]) :
   Calls Tryz.prog 107 #[.slice A n c, .func (.func 108) #[] #[.pointer (some ⟨kb, 0, none⟩)]] w (RetV (.int .i64 (idxP (fun x : HrV => nb x.key == nb key) l)) w) := by
 have H := Lib.hid h; have Hk := Lib.hid h_k; clear h h_k
 go_enter Tryz.func107, Tryz.ntmps107
 go_wp2_with fail
 go_loopw [5, 8] (fun _ t' wr => ∃ i : Nat, i ≤ n ∧ t' = .int .i64 i ∧ w.grownBy wr none ∧ (l.take i).all (fun x => !((fun x : HrV => nb x.key == nb key) x)) = true) (fun _ t' _ => n - (intOf t').toNat)
 case atStart => exact ⟨0, Nat.zero_le _, rfl, gr_refl _ _, by simp⟩
 case round =>
   obtain ⟨i, hi, rfl, hg, ha⟩ := hrel
   have HA := Lib.hid ha; have HG := Lib.hid hg; clear ha hg
   by_cases hlt : i < n
   · obtain ⟨g, o, b, rfl, _, hgl, hz, hc⟩ := (H.out.grown HG.out gn_).get HrV.row_len hlt
     have HZ := Lib.hid hz; have HC := Lib.hid hc; clear hz hc
     obtain ⟨B, hB⟩ : ∃ B, (fun x : HrV => nb x.key == nb key) b = B := ⟨_, rfl⟩
     have HE := Lib.hid hB; clear hB
     cases B
     all_goals
       go_wp2_with (first
         | (refine wpl_load_at Tryz.hrT rfl _ rfl _ rfl [.string b.key, .int .i64 b.zone, .slice b.rA b.rn b.rc, .slice b.hA b.hn b.hc] rfl (fun j u hu => by rw [add_mk]; exact HC.out j u hu) ?_)
         | (go_at_call 108; refine (hrC_any b key kb _ (Hk.out.grown HG.out (by simp))).mono ?_; rintro e w2 ⟨rfl, hg2⟩; have he := HE.out; (try dsimp only at he); rw [he]; clear he; have HG2 := Lib.hid (gr_none HG.out hg2); clear hg2)
         | fail)
     · go_roundw
       case rel => exact ⟨i + 1, by omega, by go_num, HG2.out, allP_succ (p := (fun x : HrV => nb x.key == nb key)) HA.out HZ.out HE.out⟩
       case measure => simp [intOf]; omega
     · go_ret
       exact ⟨by rw [idxP_some (p := (fun x : HrV => nb x.key == nb key)) HA.out HZ.out HE.out]; rfl, HG2.out⟩
   · obtain rfl : i = n := by omega
     go_wp2_with fail
     go_ret
     have h := HA.out
     rw [List.take_of_length_le (by rw [H.out.len]; exact Nat.le_refl _)] at h
     exact ⟨by rw [idxP_none (p := (fun x : HrV => nb x.key == nb key)) h]; rfl, HG.out⟩
theorem exec_load_rec {P : Program} {w : World} {o : Oper} {ev : Operand → Value} {ty : TypeId} {n : Nat} (T : StructT P ty n) (x : Operand) (ho : o.op = .load ty x) (a : Addr) (hx : ev x = .pointer (some a)) (cs : List Value) (hb : ∀ (j : Nat) (u : Value), cs[j]? = some u → w.cell? (a.add j) = some u) (hn : cs.length = n) :
   (execOp ev o).run P w = .ok (.value (.agg cs.toArray)) w := by
 unfold execOp
 simp only [ho, hx, Instr.loadAt, Instr.sureAddr, Sem.run_bind, Sem.run_pure, Result.andThen_ok, run_load_at T hn hb]
set_option maxHeartbeats 4000000 in
theorem counts_any (lo : Nat) (p : PlV) (key : ByteArray) (t : Int) (w : World) (h : PlOk w lo p) (hr : ∀ a ∈ p.hours, HrRight a) (hkk : hrsOk p.hours key = true) (t0 : -1 ≤ t) (t1 : t ≤ 345686400000) :
   Calls Tryz.prog 48 #[.agg #[.slice p.cA p.cn p.cc, .slice p.hA p.hn p.hc], .string key, .int .i64 t] w (RetV (.bool (cntB p.hours key t)) w) := by
 obtain ⟨W1, hW⟩ : ∃ W1, (w.alloc (.cells #[.slice p.cA p.cn p.cc, .slice p.hA p.hn p.hc] 29)).alloc (.cells #[.string key] 9) = W1 := ⟨_, rfl⟩
 have HP := Lib.hid (show Blk W1 w.heap.size 29 #[.slice p.cA p.cn p.cc, .slice p.hA p.hn p.hc] by rw [← hW]; exact (Blk.new _ _ _).alloc _)
 have HK := Lib.hid (show Blk W1 (w.heap.size + 1) 9 #[.string key] by rw [← hW]; exact blk_newH _ _ _ (by simp))
 have HG := Lib.hid (show w.grownBy W1 none by rw [← hW]; exact gr_alloc (gr_alloc (gr_refl _ _) _) _)
 have HW := Lib.hid hW; clear hW
 have hhn := h.hn
 by_cases hk : nb key = []
 · have q0 := str_nil hk
   have HV := Lib.hid (show cntB p.hours key t = true by unfold cntB; rw [decide_eq_true hk]; rfl)
   clear h hr hkk hk
   go_enter Tryz.func48, Tryz.ntmps48
   go_upto_region 1 with (fail)
   rw [HW.out]
   have k0 := HK.out.cell 0
   go_wp2_with fail
   go_ret
   exact ⟨by rw [HV.out]; try rfl, HG.out⟩
 · obtain ⟨q1, q2, q3⟩ := str_full hk
   obtain ⟨q, hh, hq, hz, hp, hf⟩ := idx_find (p := fun x : HrV => nb x.key == nb key) (l := p.hours) (by
     have h := hkk
     unfold hrsOk at h
     rw [decide_eq_false hk, Bool.false_or] at h
     exact h)
   have HQ := Lib.hid hq
   have HV := Lib.hid (show cntB p.hours key t = openAt hh.zone hh.rows hh.hol t by unfold cntB; rw [decide_eq_false hk, Bool.false_or, hf]; rfl)
   have HHO := Lib.hid (h.hours.2 hh (mem_of_get hz))
   have HHR := Lib.hid (hr hh (mem_of_get hz))
   have hqn : q < p.hn := by rw [← h.hours.1.len]; exact (List.getElem?_eq_some_iff.1 hz).1
   have hqn2 : (q : Int) < (p.hn : Int) := by omega
   obtain ⟨g, o, h2, hhA, _, hgl, hz2, hcc⟩ := h.hours.1.get HrV.row_len hqn
   obtain rfl : hh = h2 := by rw [hz] at hz2; injection hz2
   have HA := Lib.hid hhA
   have HZ := Lib.hid hz
   obtain ⟨V, hV⟩ : ∃ V, openAt hh.zone hh.rows hh.hol t = V := ⟨_, rfl⟩
   have HVV := Lib.hid hV
   clear hkk hq hp hf hz hz2 hcc hhA hr hgl hV
   have H0 := Lib.hid h
   clear h hk
   go_enter Tryz.func48, Tryz.ntmps48
   go_upto_region 1 with (fail)
   rw [HW.out]
   have k0 := HK.out.cell 0
   have k1 := HP.out.cell 1
   go_wp2_with fail
   refine (hrCIdx_any lo p.hA p.hn p.hc p.hours key (w.heap.size + 1) _ (H0.out.hours.1.grown HG.out gn_) (by omega) HK.out).mono ?_
   rintro e w2 ⟨rfl, hg2⟩
   rw [show idxP _ _ = _ from HQ.out]
   clear k0 k1
   have HG2 := Lib.hid (gr_none HG.out hg2)
   have k1 := (HP.out.grown hg2 (by simp)).cell 1
   have hA := HA.out
   have HR2 := Lib.hid (H0.out.hours.1.grown HG2.out gn_)
   clear hg2
   go_wp2_with (first
     | (refine wpl_load_at Tryz.hrT rfl _ rfl _ rfl [.string hh.key, .int .i64 hh.zone, .slice hh.rA hh.rn hh.rc, .slice hh.hA hh.hn hh.hc] rfl (fun j u hu => by
          rw [add_mk]
          have hr2 := HR2.out
          rw [HA.out] at hr2
          exact hr2.at_ HrV.row_len HZ.out j u hu) ?_)
     | fail)
   refine (isOpen_any lo hh t _ (HHO.out.grown HG2.out gn_) HHR.out t0 t1).mono ?_
   rintro e w3 ⟨rfl, hg3⟩
   rw [HVV.out]
   have HG3 := Lib.hid (gr_none HG2.out hg3)
   clear hg3
   go_wp2_with fail
   go_ret
   exact ⟨by rw [HV.out, HVV.out]; try rfl, HG3.out⟩
set_option maxHeartbeats 4000000 in
theorem countsR_any (lo : Nat) (p : PlV) (key : ByteArray) (t : Int) (w : World) (h : PlOk w lo p) (hr : ∀ a ∈ p.hours, HrRight a) (hkk : hrsOk p.hours key = true) (t0 : -1 ≤ t) (t1 : t ≤ 345686400000) :
   Calls Tryz.prog 68 #[.agg #[.slice p.cA p.cn p.cc, .slice p.hA p.hn p.hc], .string key, .int .i64 t] w (RetV (.bool (cntB p.hours key t)) w) := by
 obtain ⟨W1, hW⟩ : ∃ W1, w.alloc (.cells #[.slice p.cA p.cn p.cc, .slice p.hA p.hn p.hc] 29) = W1 := ⟨_, rfl⟩
 have HP := Lib.hid (show Blk W1 w.heap.size 29 #[.slice p.cA p.cn p.cc, .slice p.hA p.hn p.hc] by rw [← hW]; exact Blk.new _ _ _)
 have HG := Lib.hid (show w.grownBy W1 none by rw [← hW]; exact gr_alloc (gr_refl _ _) _)
 have HW := Lib.hid hW; clear hW
 have hhn := h.hn
 by_cases hk : nb key = []
 · have q0 := str_nil hk
   have HV := Lib.hid (show cntB p.hours key t = true by unfold cntB; rw [decide_eq_true hk]; rfl)
   clear h hr hkk hk
   go_enter Tryz.func68, Tryz.ntmps68
   go_upto_region 1 with (fail)
   rw [HW.out]
   go_quiet (fail)
   go_wp2_with fail
   go_ret
   exact ⟨by rw [HV.out]; try rfl, gr_drewN HG.out _⟩
 · obtain ⟨q1, q2, q3⟩ := str_full hk
   obtain ⟨q, hh, hq, hz, hp, hf⟩ := idx_find (p := fun x : HrV => nb x.key == nb key) (l := p.hours) (by
     have h := hkk
     unfold hrsOk at h
     rw [decide_eq_false hk, Bool.false_or] at h
     exact h)
   have HQ := Lib.hid hq
   have HV := Lib.hid (show cntB p.hours key t = openAt hh.zone hh.rows hh.hol t by unfold cntB; rw [decide_eq_false hk, Bool.false_or, hf]; rfl)
   have HHO := Lib.hid (h.hours.2 hh (mem_of_get hz))
   have HHR := Lib.hid (hr hh (mem_of_get hz))
   have hqn : q < p.hn := by rw [← h.hours.1.len]; exact (List.getElem?_eq_some_iff.1 hz).1
   have hqn2 : (q : Int) < (p.hn : Int) := by omega
   obtain ⟨g, o, h2, hhA, _, hgl, hz2, hcc⟩ := h.hours.1.get HrV.row_len hqn
   obtain rfl : hh = h2 := by rw [hz] at hz2; injection hz2
   have HA := Lib.hid hhA
   have HZ := Lib.hid hz
   obtain ⟨V, hV⟩ : ∃ V, openAt hh.zone hh.rows hh.hol t = V := ⟨_, rfl⟩
   have HVV := Lib.hid hV
   clear hkk hq hp hf hz hz2 hcc hhA hr hgl hV
   have H0 := Lib.hid h
   clear h hk
   go_enter Tryz.func68, Tryz.ntmps68
   go_upto_region 1 with (fail)
   rw [HW.out]
   refine H_begin (fun w' => W1.grownBy w' none) (by kernel_rfl) ?_
   have hHeld : W1.grownBy W1.drew none := gr_drew (gr_refl _ _)
   refine H_take (k := 0) (v := ?_) (by rfl) (by kernel_rfl) (by kernel_rfl) (by kernel_rfl) (by exact fun _ _ _ h => h) (by rfl) ?_ (by assumption) ?_
   rotate_left 1
   · intro w hSw
     (try dsimp only at hSw)
     go_simp
     (try with_reducible rfl)
   (try simp only [Act.put, l1_, l2_, l3_])
   refine H_take (k := 1) (v := ?_) (by rfl) (by kernel_rfl) (by kernel_rfl) (by kernel_rfl) (by exact fun _ _ _ h => h) (by rfl) ?_ (by assumption) ?_
   rotate_left 1
   · intro w hSw
     (try dsimp only at hSw)
     go_simp
     (try with_reducible rfl)
   (try simp only [Act.put, l1_, l2_, l3_])
   refine H_take (k := 2) (v := ?_) (by rfl) (by kernel_rfl) (by kernel_rfl) (by kernel_rfl) (by exact fun _ _ _ h => h) (by rfl) ?_ (by assumption) ?_
   rotate_left 1
   · intro w hSw
     (try dsimp only at hSw)
     go_simp
     (try with_reducible rfl)
   (try simp only [Act.put, l1_, l2_, l3_])
   refine H_take (k := 3) (v := ?_) (by rfl) (by kernel_rfl) (by kernel_rfl) (by kernel_rfl) (by exact fun _ _ _ h => h) (by rfl) ?_ (by assumption) ?_
   rotate_left 1
   · intro w hSw
     (try dsimp only at hSw)
     go_simp
     (try with_reducible rfl)
   (try simp only [Act.put, l1_, l2_, l3_])
   refine H_take (k := 4) (v := ?_) (by rfl) (by kernel_rfl) (by kernel_rfl) (by kernel_rfl) (by exact fun _ _ _ h => h) (by rfl) ?_ hHeld ?_
   rotate_left 1
   · intro w' hSw
     have kc := (HP.out.grown hSw (by simp)).cell 1
     go_simp
     (try with_reducible rfl)
   (try simp only [Act.put, l1_, l2_, l3_])
   refine H_take (k := 5) (v := ?_) (by rfl) (by kernel_rfl) (by kernel_rfl) (by kernel_rfl) (by exact fun _ _ _ h => h) (by rfl) ?_ (by assumption) ?_
   rotate_left 1
   · intro w hSw
     (try dsimp only at hSw)
     go_simp
     (try with_reducible rfl)
   (try simp only [Act.put, l1_, l2_, l3_])
   refine H_take (k := 6) (v := ?_) (by rfl) (by kernel_rfl) (by kernel_rfl) (by kernel_rfl) (by exact fun _ _ _ h => h) (by rfl) ?_ hHeld ?_
   rotate_left 1
   · intro w' hSw
     have kc := (HP.out.grown hSw (by simp)).cell 1
     go_simp
     (try with_reducible rfl)
   (try simp only [Act.put, l1_, l2_, l3_])
   refine H_take (k := 7) (v := ?_) (by rfl) (by kernel_rfl) (by kernel_rfl) (by kernel_rfl) (by exact fun _ _ _ h => h) (by rfl) ?_ (by assumption) ?_
   rotate_left 1
   · intro w hSw
     (try dsimp only at hSw)
     go_simp
     (try with_reducible rfl)
   (try simp only [Act.put, l1_, l2_, l3_])
   refine H_take (k := 11) (v := ?_) (by rfl) (by kernel_rfl) (by kernel_rfl) (by kernel_rfl) (by exact fun _ _ _ h => h) (by rfl) ?_ (by assumption) ?_
   rotate_left 1
   · intro w hSw
     (try dsimp only at hSw)
     go_simp
     (try with_reducible rfl)
   (try simp only [Act.put, l1_, l2_, l3_])
   refine H_run (k := 8) (by rfl) (by kernel_rfl) (by rfl) (fun K hK => ?_)
   go_simp
   refine (hoursAt_any lo p.hA p.hn p.hc p.hours key _ (H0.out.hours.1.grown (gr_drew HG.out) gn_) hhn).mono ?_
   rintro e w2 ⟨rfl, hg2⟩
   rw [show hrIx p.hours key = _ from HQ.out]
   have hh2 := gr_none (gr_drew (gr_refl W1 none)) hg2
   refine hK _ _ hh2 ?_
   clear hK K hHeld hg2
   have hHeld := hh2
   clear hh2
   have hA := HA.out
   refine H_take (k := 9) (v := ?_) (by rfl) (by kernel_rfl) (by kernel_rfl) (by kernel_rfl) (by exact fun _ _ _ h => h) (by rfl) ?_ (by assumption) ?_
   rotate_left 1
   · intro w hSw
     (try dsimp only at hSw)
     go_simp
     (try with_reducible rfl)
   (try simp only [Act.put, l1_, l2_, l3_])
   refine H_take (k := 10) (v := .agg #[.string hh.key, .int .i64 hh.zone, .slice hh.rA hh.rn hh.rc, .slice hh.hA hh.hn hh.hc]) (by rfl) (by kernel_rfl) (by kernel_rfl) (by kernel_rfl) (by exact fun _ _ _ h => h) (by rfl) (fun w' hSw => exec_load_rec Tryz.hrT _ rfl _ rfl [.string hh.key, .int .i64 hh.zone, .slice hh.rA hh.rn hh.rc, .slice hh.hA hh.hn hh.hc] (fun j u hu => by
          rw [add_mk]
          have hr2 := H0.out.hours.1.grown (gr_none HG.out hSw) gn_
          rw [HA.out] at hr2
          exact hr2.at_ HrV.row_len HZ.out j u hu) rfl) hHeld ?_
   (try simp only [Act.put, l1_, l2_, l3_])
   clear hA
   refine H_run (k := 12) (by rfl) (by kernel_rfl) (by rfl) (fun K hK => ?_)
   go_simp
   refine (openOf_any lo hh t _ (HHO.out.grown (gr_none HG.out hHeld) gn_) HHR.out t0 t1).mono ?_
   rintro e w3 ⟨rfl, hg3⟩
   rw [HVV.out]
   have hh3 := gr_none hHeld hg3
   refine hK _ _ hh3 ?_
   clear hK K hHeld hg3
   have hHeld := hh3
   clear hh3
   refine H_take (k := 13) (v := ?_) (by rfl) (by kernel_rfl) (by kernel_rfl) (by kernel_rfl) (by exact fun _ _ _ h => h) (by rfl) ?_ (by assumption) ?_
   rotate_left 1
   · intro w hSw
     (try dsimp only at hSw)
     go_simp
     (try with_reducible rfl)
   (try simp only [Act.put, l1_, l2_, l3_])
   refine H_take (k := 14) (v := ?_) (by rfl) (by kernel_rfl) (by kernel_rfl) (by kernel_rfl) (by exact fun _ _ _ h => h) (by rfl) ?_ (by assumption) ?_
   rotate_left 1
   · intro w hSw
     (try dsimp only at hSw)
     go_simp
     (try with_reducible rfl)
   (try simp only [Act.put, l1_, l2_, l3_])
   refine H_done (by kernel_rfl) ?_
   go_wp2_with fail
   go_ret
   exact ⟨by rw [HV.out, HVV.out]; try rfl, gr_none HG.out hHeld⟩
end
end Go.Proofs.YteppdabhloieaaaGreatDoor
namespace Go.Proofs.YteppdabhloieaaaGreatDoor
section
open Go.RowKit
def MostR (rules : List RuV) (o : Option Nat) (mb : Nat) (wr : World) : Prop := ∃ (A : Option Addr) (n c : Nat) (tl : Int), Blk wr mb 86 #[.slice A n c, .int .u8 tl] ∧
 ∀ b, o = some b → ∃ (r : RuV) (y : List Nat × Nat), rules[b]? = some r ∧ patX (nb r.pat) = some y ∧ tl = y.2 ∧ Ints .u16 wr (mb + 1) A n c (u16L y.1) ∧ n ≤ 30
theorem MostR.grown {rules : List RuV} {o : Option Nat} {mb : Nat} {w w' : World} (h : MostR rules o mb w) (hg : w.grownBy w' none) : MostR rules o mb w' := by
 obtain ⟨A, n, c, tl, h1, h2⟩ := h
 refine ⟨A, n, c, tl, h1.grown hg (by simp), fun b e => ?_⟩
 obtain ⟨r, y, a1, a2, a3, a4, a5⟩ := h2 b e
 exact ⟨r, y, a1, a2, a3, a4.grown hg gn_, a5⟩
set_option maxHeartbeats 16000000 in
set_option maxRecDepth 100000 in
theorem decidesP_any (lo : Nat) (p : PlV) (c : CxV) (dial : ByteArray) (t : Int) (w : World) (h : PlOk w lo p) (hr : ∀ a ∈ p.hours, HrRight a) (hc : CxOk w lo c) (hrr : ∀ r ∈ c.rules, RuRight p.hours r) (hd : dialOk (nb dial) = true) (t0 : -1 ≤ t) (t1 : t ≤ 345686400000) :
   Calls Tryz.prog 46 #[.agg #[.slice p.cA p.cn p.cc, .slice p.hA p.hn p.hc], .agg #[.string c.key, .slice c.rA c.rn c.rc, .slice c.iA c.en c.ic], .string dial, .int .i64 t] w (RetV (.int .i64 (bestI (decT p.hours (nb dial) t c.rules c.rn))) w) := by
 obtain ⟨key, rA, rn, rc, iA, en, ic, rules, incs⟩ := c
 have hrn : rn ≤ 1000000 := hc.rn
 have hlen := hc.rules.len
 have hb := hd
 unfold dialOk at hb
 simp only [Bool.and_eq_true, decide_eq_true_eq, List.all_eq_true] at hb
 have hd30 : dial.size ≤ 30 := by rw [← nb_len]; exact hb.1.2
 have HSG := Lib.hid hb.2
 dsimp only at hlen hrr ⊢
 obtain ⟨W1, hW⟩ : ∃ W1, (w.alloc (.cells #[.slice p.cA p.cn p.cc, .slice p.hA p.hn p.hc] 29)).alloc (.cells #[.string key, .slice rA rn rc, .slice iA en ic] 70) = W1 := ⟨_, rfl⟩
 have hz1 : W1.heap.size = w.heap.size + 2 := by rw [← hW]; simp
 obtain ⟨W2, hW2⟩ : ∃ W2, W1.alloc (.cells #[.slice none 0 0, .int .u8 0] 86) = W2 := ⟨_, rfl⟩
 have HP0 : Blk W1 w.heap.size 29 #[.slice p.cA p.cn p.cc, .slice p.hA p.hn p.hc] := by rw [← hW]; exact (Blk.new _ _ _).alloc _
 have HB0 : Blk W1 (w.heap.size + 1) 70 #[.string key, .slice rA rn rc, .slice iA en ic] := by rw [← hW]; exact blk_newH _ _ _ (by simp)
 have HG0 : w.grownBy W1 none := by rw [← hW]; exact gr_alloc (gr_alloc (gr_refl _ _) _) _
 have HP := Lib.hid (show Blk W2 w.heap.size 29 #[.slice p.cA p.cn p.cc, .slice p.hA p.hn p.hc] by rw [← hW2]; exact HP0.alloc _)
 have HB := Lib.hid (show Blk W2 (w.heap.size + 1) 70 #[.string key, .slice rA rn rc, .slice iA en ic] by rw [← hW2]; exact HB0.alloc _)
 have HM := Lib.hid (show MostR rules none (w.heap.size + 2) W2 from ⟨none, 0, 0, 0, by rw [← hW2, ← hz1]; exact Blk.new _ _ _, fun b e => by cases e⟩)
 have HG := Lib.hid (show w.grownBy W2 none by rw [← hW2]; exact gr_alloc HG0 _)
 have HW := Lib.hid hW; have HW2 := Lib.hid hW2; have HZ1 := Lib.hid hz1
 have H0 := Lib.hid h; have HC0 := Lib.hid hc; have HRR := Lib.hid hrr; have HHR := Lib.hid hr; have HDO := Lib.hid hd; have HLEN := Lib.hid hlen
 have k1 := HB0.cell 1
 clear h hc hrr hr hd hb hW hW2 hz1 HP0 HG0 hlen
 go_enter Tryz.func46, Tryz.ntmps46
 go_upto_region 1 with (fail)
 rw [HW.out]
 go_upto_region 3 with (fail)
 rw [HW2.out, HZ1.out]
 clear k1 HB0
 have k1 := HB.out.cell 1
 go_wp2_with fail
 clear k1
 go_loopw [9, 11, 12, 13, 14, 15, 16, 20] (fun v9 _ _ _ _ _ _ t20 wr => ∃ k : Nat, k ≤ rn ∧ t20 = .int .i64 k ∧ v9 = .int .i64 (bestI (decT p.hours (nb dial) t rules k)) ∧ w.grownBy wr none ∧ Blk wr w.heap.size 29 #[.slice p.cA p.cn p.cc, .slice p.hA p.hn p.hc] ∧ Blk wr (w.heap.size + 1) 70 #[.string key, .slice rA rn rc, .slice iA en ic] ∧ MostR rules (decT p.hours (nb dial) t rules k) (w.heap.size + 2) wr) (fun _ _ _ _ _ _ _ t20 _ => rn - (intOf t20).toNat)
 case atStart => exact ⟨0, Nat.zero_le _, rfl, rfl, HG.out, HP.out, HB.out, HM.out⟩
 case round =>
   clear HG HP HB HM
   obtain ⟨k, hk, rfl, rfl, hg, hp, hb, hmm⟩ := hrel
   have zg := hmm
   have HG := Lib.hid hg; have HP := Lib.hid hp; have HB := Lib.hid hb; have HM := Lib.hid hmm
   have zr : w.heap.size + 2 < wr.heap.size := by obtain ⟨_, _, _, _, h1, _⟩ := hmm; exact h1.lt
   clear hg hp hb hmm zg
   by_cases hlt : k < rn
   · obtain ⟨g, o, r, hrA, _, hgl, hz, hcc⟩ := (HC0.out.rules.grown HG.out gn_).get RuV.row_len hlt
     dsimp only at hrA hz
     subst hrA
     have HZ := Lib.hid hz; have HRC := Lib.hid hcc
     have HRU := Lib.hid (HRR.out r (mem_of_get hz))
     obtain ⟨x, hx⟩ := HRU.out.pat
     have HPX := Lib.hid hx
     obtain ⟨ro1, ro2, ro3, ro4⟩ := HC0.out.rok r (mem_of_get hz)
     have hkk : (k : Int) < (rn : Int) := by omega
     clear hz hcc hx hgl
     obtain ⟨wa, hwa⟩ : ∃ wa, wr.alloc (.cells #[.string r.pat, .int .i64 r.strip, .string r.pre, .int .i64 r.to_, .string r.nam, .string r.hrs] 73) = wa := ⟨_, rfl⟩
     have HRB := Lib.hid (show Blk wa wr.heap.size 73 #[.string r.pat, .int .i64 r.strip, .string r.pre, .int .i64 r.to_, .string r.nam, .string r.hrs] by rw [← hwa]; exact Blk.new _ _ _)
     have hga : wr.grownBy wa none := by rw [← hwa]; exact gr_alloc (gr_refl _ _) _
     have hza : wr.heap.size < wa.heap.size := by rw [← hwa]; simp
     have HWA := Lib.hid hwa; clear hwa
     go_upto_region 6 with (first
       | (refine wpl_load_at Tryz.ruT rfl _ rfl _ rfl [.string r.pat, .int .i64 r.strip, .string r.pre, .int .i64 r.to_, .string r.nam, .string r.hrs] rfl (fun j u hu => by rw [add_mk]; exact HRC.out j u hu) ?_)
       | fail)
     rw [HWA.out]
     obtain ⟨rb, hrb⟩ : ∃ rb, wr.heap.size = rb := ⟨_, rfl⟩
     rw [hrb] at HRB zr hza ⊢
     clear hrb HWA HRC
     replace HG := Lib.hid (gr_none HG.out hga)
     replace HP := Lib.hid (HP.out.grown hga (by simp))
     replace HB := Lib.hid (HB.out.grown hga (by simp))
     replace HM := Lib.hid (HM.out.grown hga)
     clear hga
     have kr0 := HRB.out.cell 0
     go_wp2_with fail
     refine (read_all r.pat _).mono ?_
     rintro e w6 ⟨v6, rfl, hv6, hg6⟩
     have z6 := hg6.size
     replace HRB := Lib.hid (HRB.out.grown hg6 (by simp))
     replace HG := Lib.hid (gr_none HG.out hg6)
     replace HP := Lib.hid (HP.out.grown hg6 (by simp))
     replace HB := Lib.hid (HB.out.grown hg6 (by simp))
     replace HM := Lib.hid (HM.out.grown hg6)
     clear hg6
     clear kr0
     rcases hv6 with ⟨x', xA, xn, xc, hx', rfl, hxi, hxn⟩ | ⟨hx', rfl⟩
     rotate_left 1
     · exfalso; rw [HPX.out] at hx'; cases hx'
     · obtain rfl : x = x' := by rw [HPX.out] at hx'; injection hx'
       have HXI0 := Lib.hid (hxi.lower (show w.heap.size + 2 + 1 ≤ wa.heap.size by omega))
       have HRT := Lib.hid (patX_right hx')
       clear hxi hx'
       obtain ⟨wx, hwx⟩ : ∃ wx, w6.alloc (.cells #[.slice xA xn xc, .int .u8 x.2] 86) = wx := ⟨_, rfl⟩
       obtain ⟨xb, hxb⟩ : ∃ xb, w6.heap.size = xb := ⟨_, rfl⟩
       have HX := Lib.hid (show Blk wx xb 86 #[.slice xA xn xc, .int .u8 x.2] by rw [← hwx, ← hxb]; exact Blk.new _ _ _)
       have hgx : w6.grownBy wx none := by rw [← hwx]; exact gr_alloc (gr_refl _ _) _
       have HXI := Lib.hid (HXI0.out.grown hgx gn_)
       have hxbl : w.heap.size + 3 ≤ xb := by omega
       have HWX := Lib.hid hwx; have HXB := Lib.hid hxb
       clear hwx HXI0 hxb
       go_upto_region 7 with (fail)
       rw [HWX.out, HXB.out]
       clear HWX HXB
       replace HRB := Lib.hid (HRB.out.grown hgx (by simp))
       replace HG := Lib.hid (gr_none HG.out hgx)
       replace HP := Lib.hid (HP.out.grown hgx (by simp))
       replace HB := Lib.hid (HB.out.grown hgx (by simp))
       replace HM := Lib.hid (HM.out.grown hgx)
       clear hgx
       obtain ⟨M, hM⟩ : ∃ M, matchL x (nb dial) = M := ⟨_, rfl⟩
       have HMT := Lib.hid hM; clear hM
       go_wp2_with (first
         | (refine wpl_load_all Tryz.patT rfl _ rfl _ rfl _ _ HX.out rfl ?_)
         | fail)
       refine (begins_any xA xn xc x dial _ (HXI.out.lower (Nat.zero_le _)) HRT.out hxn hd30 HSG.out).mono ?_
       rintro e w7 ⟨v7, rfl, ⟨B7, rfl⟩, hg7⟩
       rw [HMT.out]
       replace HRB := Lib.hid (HRB.out.grown hg7 (by simp))
       replace HX := Lib.hid (HX.out.grown hg7 (by simp))
       replace HXI := Lib.hid (HXI.out.grown hg7 gn_)
       replace HG := Lib.hid (gr_none HG.out hg7)
       replace HP := Lib.hid (HP.out.grown hg7 (by simp))
       replace HB := Lib.hid (HB.out.grown hg7 (by simp))
       replace HM := Lib.hid (HM.out.grown hg7)
       clear hg7
       cases M
       · have HN := Lib.hid (show (decT p.hours (nb dial) t rules (k + 1)) = (decT p.hours (nb dial) t rules k) from decT_no HZ.out (by unfold fitB; rw [HPX.out]; show (matchL x (nb dial) && _) = false; rw [HMT.out]; rfl))
         go_wp2_with fail
         go_roundw
         case rel => exact ⟨k + 1, by omega, by go_num, by rw [HN.out], HG.out, HP.out, HB.out, by rw [HN.out]; exact HM.out⟩
         case measure => simp [intOf]; omega
       · obtain ⟨C, hC⟩ : ∃ C, cntB p.hours r.hrs t = C := ⟨_, rfl⟩
         have HCB := Lib.hid hC
         have HFB := Lib.hid (show fitB p.hours (nb dial) t r = C by unfold fitB; rw [HPX.out]; show (matchL x (nb dial) && _) = C; rw [HMT.out, hC]; rfl)
         clear hC
         have cY := HP.out.cell
         have kr5 := HRB.out.cell 5
         go_wp2_with fail
         clear cY kr5
         refine (counts_any lo p r.hrs t _ (H0.out.grown HG.out gn_) HHR.out HRU.out.hrs t0 t1).mono ?_
         rintro e w8 ⟨rfl, hg8⟩
         rw [HCB.out]
         replace HRB := Lib.hid (HRB.out.grown hg8 (by simp))
         replace HX := Lib.hid (HX.out.grown hg8 (by simp))
         replace HXI := Lib.hid (HXI.out.grown hg8 gn_)
         replace HG := Lib.hid (gr_none HG.out hg8)
         replace HP := Lib.hid (HP.out.grown hg8 (by simp))
         replace HB := Lib.hid (HB.out.grown hg8 (by simp))
         replace HM := Lib.hid (HM.out.grown hg8)
         clear hg8
         cases C
         · have HN := Lib.hid (show (decT p.hours (nb dial) t rules (k + 1)) = (decT p.hours (nb dial) t rules k) from decT_no HZ.out HFB.out)
           go_wp2_with fail
           go_roundw
           case rel => exact ⟨k + 1, by omega, by go_num, by rw [HN.out], HG.out, HP.out, HB.out, by rw [HN.out]; exact HM.out⟩
           case measure => simp [intOf]; omega
         · cases hdk : (decT p.hours (nb dial) t rules k) with
           | none =>
             have HN := Lib.hid (show (decT p.hours (nb dial) t rules (k + 1)) = some k from decT_first HZ.out HFB.out hdk)
             rw [hdk] at HM
             have HDK := Lib.hid hdk; clear hdk
             rw [show bestI none = -1 from rfl]
             obtain ⟨wx, rfl⟩ : ∃ wx : World, wx = w8 := ⟨_, rfl⟩
             go_upto_region 10 with (fail)
             obtain ⟨wo, hwo⟩ : ∃ wo : World, wx = wo := ⟨_, rfl⟩
             rw [hwo] at HM HX HP HB HG HXI
             rw [hwo]
             clear hwo
             obtain ⟨mA, mn, mc, mt, hmb, hmo⟩ := HM.out
             have HMB := Lib.hid hmb
             clear hmb hmo
             refine H_begin (fun w' => wo.grownBy w' (some (w.heap.size + 2))) (by kernel_rfl) ?_
             have hHeld : wo.grownBy wo.drew (some (w.heap.size + 2)) := gr_drew (gr_refl _ _)
             refine H_take (k := 0) (v := ?_) (by rfl) (by kernel_rfl) (by kernel_rfl) (by kernel_rfl) (by exact fun _ _ _ h => h) (by rfl) ?_ (by assumption) ?_
             rotate_left 1
             · intro w hSw
               (try dsimp only at hSw)
               go_simp
               (try with_reducible rfl)
             (try simp only [Act.put, l1_, l2_, l3_])
             refine H_take (k := 1) (v := .agg #[.slice xA xn xc, .int .u8 x.2]) (by rfl) (by kernel_rfl) (by kernel_rfl) (by kernel_rfl) (by exact fun _ _ _ h => h) (by rfl) (fun w' hSw => exec_load_blk' Tryz.patT _ rfl _ rfl 86 [.slice xA xn xc, .int .u8 x.2] (HX.out.grown hSw (by simp; omega)) rfl) hHeld ?_
             (try simp only [Act.put, l1_, l2_, l3_])
             refine H_take (k := 2) (v := ?_) (by rfl) (by kernel_rfl) (by kernel_rfl) (by kernel_rfl) (by exact fun _ _ _ h => h) (by rfl) ?_ (by assumption) ?_
             rotate_left 1
             · intro w hSw
               (try dsimp only at hSw)
               go_simp
               (try with_reducible rfl)
             (try simp only [Act.put, l1_, l2_, l3_])
             refine H_run (k := 3) (by rfl) (by kernel_rfl) (by rfl) (fun K hK => ?_)
             refine wp_store_all Tryz.patT _ _ (by rfl) (w.heap.size + 2) (by rfl) 86 _ #[.slice xA xn xc, .int .u8 x.2] (by rfl) (HMB.out.grown (gr_drew (gr_refl wo none)) (by simp)) rfl rfl (by simp [Value.oneCell']) ?_
             intro w9 h9
             have hg9 : wo.grownBy w9 (some (w.heap.size + 2)) := gr_trans (gr_drew (gr_refl wo _)) h9.2.1 (fun g e => .inl e.symm)
             have HMN := Lib.hid (show MostR rules (some k) (w.heap.size + 2) w9 from ⟨xA, xn, xc, x.2, h9.1, fun b e => by
               injection e with e
               subst e
               exact ⟨r, x, HZ.out, HPX.out, rfl, HXI.out.grown hg9 (fun g e => by injection e with e; omega), hxn⟩⟩)
             replace HG := Lib.hid (show w.grownBy w9 none from gr_trans HG.out hg9 (fun g e => .inr (by injection e with e; omega)))
             replace HP := Lib.hid (HP.out.grown hg9 (by simp))
             replace HB := Lib.hid (HB.out.grown hg9 (by simp))
             refine hK _ _ hg9 ?_
             clear hK K hHeld h9 hg9
             refine H_done (by kernel_rfl) ?_
             go_wp2_with fail
             go_roundw
             case rel => exact ⟨k + 1, by omega, by go_num, by rw [HN.out]; rfl, HG.out, HP.out, HB.out, by rw [HN.out]; exact HMN.out⟩
             case measure => simp [intOf]; omega
           | some b =>
             obtain ⟨mA, mn, mc, mt, hmb, hmo⟩ := HM.out
             obtain ⟨ro, y, hb1, hb2, rfl, hyi, hyn⟩ := hmo b hdk
             have HBF := Lib.hid (show befR r ro = decide (befL x y < 0) by unfold befR; rw [HPX.out]; show ((patX (nb ro.pat)).elim false fun y => decide (befL x y < 0)) = _; rw [hb2]; rfl)
             have HN0 := Lib.hid (decT_more HZ.out HFB.out hdk hb1)
             have HYI := Lib.hid hyi; have HMB := Lib.hid hmb
             have HRTY := Lib.hid (patX_right hb2)
             have HDK := Lib.hid hdk
             rw [hdk] at HM
             clear hmb hmo hb1 hb2 hyi hdk
             rw [show bestI (some b) = (b : Int) from rfl]
             have db : decide ((b : Int) < 0) = false := decide_eq_false (by omega)
             have cX := HX.out.cell
             have cM := HMB.out.cell
             go_wp2_with fail
             clear cX cM
             refine (before_any xA mA xn xc mn mc x y _ (HXI.out.lower (Nat.zero_le _)) (HYI.out.lower (Nat.zero_le _)) HRT.out HRTY.out hxn hyn).mono ?_
             rintro e w9 ⟨rfl, hg9⟩
             obtain ⟨V, hV⟩ : ∃ V, befL x y = V := ⟨_, rfl⟩
             rw [hV] at HBF ⊢
             clear hV
             replace HRB := Lib.hid (HRB.out.grown hg9 (by simp))
             replace HX := Lib.hid (HX.out.grown hg9 (by simp))
             replace HXI := Lib.hid (HXI.out.grown hg9 gn_)
             replace HG := Lib.hid (gr_none HG.out hg9)
             replace HP := Lib.hid (HP.out.grown hg9 (by simp))
             replace HB := Lib.hid (HB.out.grown hg9 (by simp))
             replace HM := Lib.hid (HM.out.grown hg9)
             clear hg9
             clear HMB HYI HRTY
             by_cases hV0 : V < 0
             · have dV : decide (V < 0) = true := decide_eq_true hV0
               have HN := Lib.hid (show (decT p.hours (nb dial) t rules (k + 1)) = some k by rw [HN0.out, HBF.out, dV]; rfl)
               obtain ⟨wx, rfl⟩ : ∃ wx : World, wx = w9 := ⟨_, rfl⟩
               go_upto_region 10 with (fail)
               obtain ⟨wo, hwo⟩ : ∃ wo : World, wx = wo := ⟨_, rfl⟩
               rw [hwo] at HM HX HP HB HG HXI
               rw [hwo]
               clear hwo
               obtain ⟨mA, mn, mc, mt, hmb, hmo⟩ := HM.out
               have HMB := Lib.hid hmb
               clear hmb hmo
               refine H_begin (fun w' => wo.grownBy w' (some (w.heap.size + 2))) (by kernel_rfl) ?_
               have hHeld : wo.grownBy wo.drew (some (w.heap.size + 2)) := gr_drew (gr_refl _ _)
               refine H_take (k := 0) (v := ?_) (by rfl) (by kernel_rfl) (by kernel_rfl) (by kernel_rfl) (by exact fun _ _ _ h => h) (by rfl) ?_ (by assumption) ?_
               rotate_left 1
               · intro w hSw
                 (try dsimp only at hSw)
                 go_simp
                 (try with_reducible rfl)
               (try simp only [Act.put, l1_, l2_, l3_])
               refine H_take (k := 1) (v := .agg #[.slice xA xn xc, .int .u8 x.2]) (by rfl) (by kernel_rfl) (by kernel_rfl) (by kernel_rfl) (by exact fun _ _ _ h => h) (by rfl) (fun w' hSw => exec_load_blk' Tryz.patT _ rfl _ rfl 86 [.slice xA xn xc, .int .u8 x.2] (HX.out.grown hSw (by simp; omega)) rfl) hHeld ?_
               (try simp only [Act.put, l1_, l2_, l3_])
               refine H_take (k := 2) (v := ?_) (by rfl) (by kernel_rfl) (by kernel_rfl) (by kernel_rfl) (by exact fun _ _ _ h => h) (by rfl) ?_ (by assumption) ?_
               rotate_left 1
               · intro w hSw
                 (try dsimp only at hSw)
                 go_simp
                 (try with_reducible rfl)
               (try simp only [Act.put, l1_, l2_, l3_])
               refine H_run (k := 3) (by rfl) (by kernel_rfl) (by rfl) (fun K hK => ?_)
               refine wp_store_all Tryz.patT _ _ (by rfl) (w.heap.size + 2) (by rfl) 86 _ #[.slice xA xn xc, .int .u8 x.2] (by rfl) (HMB.out.grown (gr_drew (gr_refl wo none)) (by simp)) rfl rfl (by simp [Value.oneCell']) ?_
               intro w9 h9
               have hg9 : wo.grownBy w9 (some (w.heap.size + 2)) := gr_trans (gr_drew (gr_refl wo _)) h9.2.1 (fun g e => .inl e.symm)
               have HMN := Lib.hid (show MostR rules (some k) (w.heap.size + 2) w9 from ⟨xA, xn, xc, x.2, h9.1, fun b e => by
                 injection e with e
                 subst e
                 exact ⟨r, x, HZ.out, HPX.out, rfl, HXI.out.grown hg9 (fun g e => by injection e with e; omega), hxn⟩⟩)
               replace HG := Lib.hid (show w.grownBy w9 none from gr_trans HG.out hg9 (fun g e => .inr (by injection e with e; omega)))
               replace HP := Lib.hid (HP.out.grown hg9 (by simp))
               replace HB := Lib.hid (HB.out.grown hg9 (by simp))
               refine hK _ _ hg9 ?_
               clear hK K hHeld h9 hg9
               refine H_done (by kernel_rfl) ?_
               go_wp2_with fail
               go_roundw
               case rel => exact ⟨k + 1, by omega, by go_num, by rw [HN.out]; rfl, HG.out, HP.out, HB.out, by rw [HN.out]; exact HMN.out⟩
               case measure => simp [intOf]; omega
             · have dV : decide (V < 0) = false := decide_eq_false hV0
               have HN := Lib.hid (show (decT p.hours (nb dial) t rules (k + 1)) = some b by rw [HN0.out, HBF.out, dV]; rfl)
               go_wp2_with fail
               go_roundw
               case rel => exact ⟨k + 1, by omega, by go_num, by rw [HN.out]; rfl, HG.out, HP.out, HB.out, by rw [HN.out]; exact HM.out⟩
               case measure => simp [intOf]; omega
   · obtain rfl : k = rn := by omega
     go_wp2_with fail
     go_ret
     exact ⟨rfl, HG.out⟩
end
end Go.Proofs.YteppdabhloieaaaGreatDoor
namespace Go.Proofs.YteppdabhloieaaaGreatDoor
section
open Go.RowKit
def akE (p : PlV) (LB : Bool) (key dial : ByteArray) (t : Int) : Int := if opE p LB key = 0 then (if dialOk (nb dial) = true then (if momB t = true then 0 else 1) else 3) else opE p LB key
theorem opE_right {p : PlV} {LB : Bool} {key : ByteArray} (h : opE p LB key = 0) : plE p LB = 0 := by
 unfold opE at h
 by_cases c : plE p LB = 0
 · exact c
 · rw [if_neg c] at h; exact absurd h c
def AskV (p : PlV) (LB : Bool) (key dial : ByteArray) (t : Int) (w : World) (e : Ending) (w' : World) : Prop :=
 ∃ (A : Option Addr) (n c : Nat) (r : List Nat), e = .returned (.tuple #[.slice A n c, .int .i64 (akE p LB key dial t)]) ∧ OwnR CxV.row 3 w' w.heap.size 70 A n c (pickC p.ctxs r) ∧ w.grownBy w' none ∧ (akE p LB key dial t = 0 → OrdOk p key r) ∧ n ≤ 50
set_option maxHeartbeats 8000000 in
theorem ask_any (lo : Nat) (p : PlV) (LB : Bool) (key dial : ByteArray) (t : Int) (w : World) (h : PlOk w lo p) (hLB : LB = true ↔ Loops p.ctxs) (hd : dial.size ≤ 1000000) :
   Calls Tryz.prog 45 #[.agg #[.slice p.cA p.cn p.cc, .slice p.hA p.hn p.hc], .string key, .string dial, .int .i64 t] w (AskV p LB key dial t w) := by
 obtain ⟨cA, cn, cc, hA, hn, hc, ctxs, hours⟩ := p
 have hcn : cn ≤ 1000000 := h.cn
 have hlen := h.ctxs.len
 dsimp only at hlen hLB ⊢
 obtain ⟨W1, hW⟩ : ∃ W1, w.alloc (.cells #[.slice cA cn cc, .slice hA hn hc] 29) = W1 := ⟨_, rfl⟩
 have HP := Lib.hid (show Blk W1 w.heap.size 29 #[.slice cA cn cc, .slice hA hn hc] by rw [← hW]; exact Blk.new _ _ _)
 have HG := Lib.hid (show w.grownBy W1 none by rw [← hW]; exact gr_alloc (gr_refl _ _) _)
 have HPL := Lib.hid (h.grown HG.out gn_)
 have HW := Lib.hid hW
 have HLB := Lib.hid hLB
 have HLEN := Lib.hid hlen
 have H0 := Lib.hid h
 clear h hW hLB hlen
 obtain ⟨E0, hE0⟩ : ∃ E, opE ⟨cA, cn, cc, hA, hn, hc, ctxs, hours⟩ LB key = E := ⟨_, rfl⟩
 have HE0 := Lib.hid hE0; clear hE0
 go_enter Tryz.func45, Tryz.ntmps45
 go_upto_region 1 with (fail)
 rw [HW.out]
 go_wp2_with (first
   | (refine wpl_load_all Tryz.plT rfl _ rfl _ rfl _ _ HP.out rfl ?_)
   | fail)
 refine (open_any lo ⟨cA, cn, cc, hA, hn, hc, ctxs, hours⟩ LB key _ HPL.out HLB.out).mono ?_
 rintro e w2 ⟨B, m, d, r, rfl, hob, hg2, hok, hno, hm50⟩
 rw [HE0.out]
 rw [HE0.out] at hok hno
 have HOB := Lib.hid (hob.lower (show w.heap.size ≤ W1.heap.size from HG.out.size))
 have HOK := Lib.hid hok
 clear hob hok hno
 replace HP := Lib.hid (HP.out.grown hg2 (by simp))
 replace HPL := Lib.hid (HPL.out.grown hg2 gn_)
 replace HG := Lib.hid (gr_none HG.out hg2)
 clear hg2
 by_cases e0 : E0 = 0
 · have dE : (E0 != 0) = false := by simpa using e0
   obtain ⟨D, hD⟩ : ∃ D, dialOk (nb dial) = D := ⟨_, rfl⟩
   have HD := Lib.hid hD
   have HV := Lib.hid (show akE ⟨cA, cn, cc, hA, hn, hc, ctxs, hours⟩ LB key dial t = if D = true then (if momB t = true then 0 else 1) else 3 by unfold akE; rw [if_pos (HE0.out.trans e0), hD])
   clear hD
   go_wp2_with fail
   refine (isDialled_any dial _ hd).mono ?_
   rintro e w3 ⟨rfl, hg3⟩
   rw [HD.out]
   replace HOB := Lib.hid (HOB.out.low hg3 gn_)
   replace HP := Lib.hid (HP.out.grown hg3 (by simp))
   replace HPL := Lib.hid (HPL.out.grown hg3 gn_)
   replace HG := Lib.hid (gr_none HG.out hg3)
   clear hg3
   cases D
   · rw [if_neg (by decide)] at HV
     go_wp2_with fail
     go_ret2
     exact ⟨none, 0, 0, [], by rw [HV.out]; try rfl, OwnR.nil _ _ _, HG.out, (fun e => by rw [HV.out] at e; exact absurd e (by decide)), by omega⟩
   · rw [if_pos rfl] at HV
     obtain ⟨M, hM⟩ : ∃ M, momB t = M := ⟨_, rfl⟩
     rw [hM] at HV
     have HMM := Lib.hid hM
     clear hM
     go_wp2_with fail
     refine (isMomB_any t _).mono ?_
     rintro e w' ⟨rfl, rfl⟩
     rw [HMM.out]
     cases M
     · rw [if_neg (by decide)] at HV
       go_wp2_with fail
       go_ret2
       exact ⟨none, 0, 0, [], by rw [HV.out]; try rfl, OwnR.nil _ _ _, HG.out, (fun e => by rw [HV.out] at e; exact absurd e (by decide)), by omega⟩
     · rw [if_pos rfl] at HV
       go_wp2_with fail
       go_ret2
       exact ⟨B, m, d, r, by rw [HV.out]; try rfl, HOB.out, HG.out, fun _ => HOK.out e0, hm50⟩
 · have dE : (E0 != 0) = true := by simpa using e0
   have HV := Lib.hid (show akE ⟨cA, cn, cc, hA, hn, hc, ctxs, hours⟩ LB key dial t = E0 by unfold akE; rw [if_neg (by rw [HE0.out]; exact e0), HE0.out])
   go_wp2_with fail
   go_ret2
   exact ⟨none, 0, 0, [], by rw [HV.out]; try rfl, OwnR.nil _ _ _, HG.out, (fun e => by rw [HV.out] at e; exact absurd e e0), by omega⟩
end
end Go.Proofs.YteppdabhloieaaaGreatDoor
namespace Go.Proofs.YteppdabhloieaaaGreatDoor
section
open Go.RowKit
def GrowV (w : World) (e : Ending) (w' : World) : Prop := ∃ (A : Option Addr) (c : Nat), e = .returned (.slice A 0 c) ∧ OwnR srow 1 w' w.heap.size 9 A 0 c [] ∧ w.grownBy w' none
set_option maxHeartbeats 2000000 in
theorem growNil_any (n : Nat) (w : World) (hn : n ≤ 1000000) : Calls Tryz.prog 160 #[.slice none 0 0, .int .i64 n] w (GrowV w) := by
 rcases Nat.eq_zero_or_pos n with rfl | h0
 · go_enter Tryz.func160, Tryz.ntmps160
   go_wp2_with fail
   go_ret
   exact ⟨none, 0, rfl, OwnR.nil _ _ _, gr_refl _ _⟩
 · have d0 : decide ((n : Int) < 0) = false := decide_eq_false (by omega)
   have d1 : decide ((0 : Int) < (n : Int)) = true := decide_eq_true (by omega)
   have hi : (0 : Int) < (n : Int) := by omega
   go_enter Tryz.func160, Tryz.ntmps160
   go_wp2_with (first
     | (at_builtin
        refine wpl_app_zeros _ rfl _ _ Tryz.stT rfl rfl Tryz.underlying3 rfl w.heap.size none 0 0 _ rfl (by exact Own.nil _ _ _ _) n rfl (by omega) (by unfold maxLen; omega) (by omega) (by omega) ?_
        intro A9 c9 w9 h9
        have hp9 := h9.1.prefix_ 0 (by omega)
        have H9 := Lib.hid h9; have HP9 := Lib.hid hp9; clear h9 hp9)
     | fail)
   go_ret
   exact ⟨A9, c9, rfl, ⟨by simpa using HP9.out, rfl⟩, H9.out.gr (gr_refl _ _) (Own.nil _ _ _ _) (Nat.le_refl _)⟩
def two (l1 l2 : List ByteArray) : Nat → List ByteArray
 | 0 => []
 | 1 => l1
 | _ => l1 ++ l2
def ConcatV (l1 l2 : List ByteArray) (w : World) (e : Ending) (w' : World) : Prop := ∃ (A : Option Addr) (n c : Nat), e = .returned (.slice A n c) ∧ OwnR srow 1 w' w.heap.size 9 A n c (l1 ++ l2) ∧ w.grownBy w' none
set_option maxHeartbeats 4000000 in
set_option maxRecDepth 100000 in
theorem concat2_any (lo1 lo2 g : Nat) (A B : Option Addr) (n c m d : Nat) (l1 l2 : List ByteArray) (w : World) (hb : Blk w g 57 #[.slice A n c, .slice B m d]) (h1 : Recs srow 1 w lo1 A n c l1) (h2 : Recs srow 1 w lo2 B m d l2) (hn : n ≤ 100000) (hm : m ≤ 100000) :
   Calls Tryz.prog 123 #[.slice (some ⟨g, 0, none⟩) 2 2] w (ConcatV l1 l2 w) := by
 have HB := Lib.hid hb; have H1 := Lib.hid h1; have H2 := Lib.hid h2
 have HL1 := Lib.hid h1.len; have HL2 := Lib.hid h2.len
 clear hb h1 h2
 have two_len : ∀ i, i ≤ 2 → (two l1 l2 i).length ≤ n + m := fun i hi => by
   rcases (by omega : i = 0 ∨ i = 1 ∨ i = 2) with rfl | rfl | rfl
   · exact Nat.zero_le _
   · show l1.length ≤ _; rw [HL1.out]; omega
   · show (l1 ++ l2).length ≤ _; rw [List.length_append, HL1.out, HL2.out]; exact Nat.le_refl _
 have HTL := Lib.hid two_len
 clear two_len
 go_enter Tryz.func123, Tryz.ntmps123
 go_wp2_with fail
 go_loop [3, 5, 11] (fun v _ t => ∃ i : Nat, i ≤ 2 ∧ t = .int .i64 i ∧ v = .int .i64 ((two l1 l2 i).length : Int)) (fun _ _ t => 2 - (intOf t).toNat)
 case atStart => exact ⟨0, by omega, rfl, rfl⟩
 case round =>
   obtain ⟨i, hi, rfl, rfl⟩ := hrel
   rcases (by omega : i = 0 ∨ i = 1 ∨ i = 2) with rfl | rfl | rfl
   · have k0 := HB.out.cell 0
     have hz : (two l1 l2 0).length = 0 := rfl
     have HZ1 := Lib.hid (show (two l1 l2 1).length = n from HL1.out)
     rw [hz]
     clear hz
     have d0 : decide ((n : Int) < 0) = false := decide_eq_false (by omega)
     go_wp2_with fail
     go_round
     case rel => exact ⟨1, by omega, rfl, by rw [HZ1.out]; try simp⟩
     case measure => simp [intOf]
   · have k0 := HB.out.cell 1
     rw [show (two l1 l2 1).length = n from HL1.out]
     have HZ1 := Lib.hid (show ((two l1 l2 2).length : Int) = (n : Int) + (m : Int) by show ((l1 ++ l2).length : Int) = _; rw [List.length_append, HL1.out, HL2.out]; omega)
     have d0 : decide ((n : Int) + (m : Int) < 0) = false := decide_eq_false (by omega)
     go_wp2_with fail
     go_round
     case rel => exact ⟨2, by omega, rfl, by rw [HZ1.out]⟩
     case measure => simp [intOf]
   · obtain ⟨N, hN⟩ : ∃ N, (two l1 l2 2).length = N := ⟨_, rfl⟩
     have hN2 := HTL.out 2 (by omega)
     rw [hN] at hN2 ⊢
     clear hN
     go_wp2_with fail
     refine (growNil_any N _ (by omega)).mono ?_
     rintro e w2 ⟨A2, c2, rfl, ho, hg⟩
     have HO := Lib.hid ho; have HG := Lib.hid hg
     clear ho hg
     go_wp2_with fail
     go_loopw [6, 8, 27] (fun v _ t wr => ∃ (i : Nat) (A' : Option Addr) (n' c' : Nat), i ≤ 2 ∧ t = .int .i64 i ∧ v = .slice A' n' c' ∧ w.grownBy wr none ∧ OwnR srow 1 wr w.heap.size 9 A' n' c' (two l1 l2 i)) (fun _ _ t _ => 2 - (intOf t).toNat)
     case atStart => exact ⟨0, A2, 0, c2, by omega, rfl, rfl, HG.out, HO.out⟩
     case round =>
       clear HO HG
       obtain ⟨i, A', n', c', hi, rfl, rfl, hg, ho⟩ := hrel
       have zr := hg.size
       have hb := HB.out.grown hg (by simp)
       have HG := Lib.hid hg; have HO := Lib.hid ho
       have hln := HTL.out i hi
       rw [ho.2] at hln
       clear hg ho
       rcases (by omega : i = 0 ∨ i = 1 ∨ i = 2) with rfl | rfl | rfl
       · have k0 := hb.cell 0
         clear hb
         go_wp2_with (first
           | (at_builtin
              refine wpl_app _ rfl _ _ Tryz.stT rfl w.heap.size A' n' c' _ rfl (by exact HO.out.1) lo1 A n c (l1.flatMap srow) rfl (by exact (H1.out.grown HG.out gn_).1) srow_one (by unfold maxLen; omega) (by omega) (by omega) ?_
              intro A5 c5 w5 h5
              have H5 := Lib.hid h5; clear h5)
           | fail)
         go_roundw
         case rel => exact ⟨1, A5, n' + n, c5, by omega, rfl, rfl, H5.out.gr HG.out HO.out.1 (Nat.le_refl _), own_app HO.out HL1.out rfl H5.out⟩
         case measure => simp [intOf]
       · have k0 := hb.cell 1
         clear hb
         go_wp2_with (first
           | (at_builtin
              refine wpl_app _ rfl _ _ Tryz.stT rfl w.heap.size A' n' c' _ rfl (by exact HO.out.1) lo2 B m d (l2.flatMap srow) rfl (by exact (H2.out.grown HG.out gn_).1) srow_one (by unfold maxLen; omega) (by omega) (by omega) ?_
              intro A5 c5 w5 h5
              have H5 := Lib.hid h5; clear h5)
           | fail)
         go_roundw
         case rel => exact ⟨2, A5, n' + m, c5, by omega, rfl, rfl, H5.out.gr HG.out HO.out.1 (Nat.le_refl _), own_app HO.out HL2.out rfl H5.out⟩
         case measure => simp [intOf]
       · clear hb
         go_wp2_with fail
         go_ret
         exact ⟨A', n', c', rfl, HO.out, HG.out⟩
theorem recs_tail {w : World} {lo g oo m d : Nat} {a : ByteArray} {l : List ByteArray} (h : Recs srow 1 w lo (some ⟨g, oo, none⟩) m d (a :: l)) : Recs srow 1 w lo (if d = 1 then some ⟨g, oo, none⟩ else some ⟨g, oo + 1, none⟩) (m - 1) (d - 1) l := by
 have hl : l.length + 1 = m := h.2
 have hc := h.cap
 refine ⟨⟨by rw [flat_len srow_len]; omega, by omega, fun hp => ?_⟩, by omega⟩
 obtain ⟨g1, o1, e, h1, h2, h3⟩ := h.1.2.2 (by omega)
 injection e with e
 injection e with e1 e2
 subst e1; subst e2
 rw [if_neg (by omega)]
 refine ⟨g, oo + 1, rfl, h1, h2, fun j u hu => ?_⟩
 have := h3 (j + 1) u (by rw [List.flatMap_cons]; show (([Value.string a] : List Value) ++ l.flatMap srow)[j + 1]? = some u; simpa using hu)
 rw [show oo + 1 + j = oo + (j + 1) by omega]
 exact this
set_option maxHeartbeats 16000000 in
set_option maxRecDepth 100000 in
theorem orderOf_any (lo : Nat) (p : PlV) (i : Nat) (z : CxV) (w : World) (h : PlOk w lo p) (hm : misB p.ctxs = false) (hk : Keyed1 p.ctxs) (hz : p.ctxs[i]? = some z) (hcn : p.cn ≤ 50) (hen : ∀ c ∈ p.ctxs, c.en ≤ 10) :
   Calls Tryz.prog 66 #[.agg #[.slice p.cA p.cn p.cc, .slice p.hA p.hn p.hc], .string z.key] w (fun e w' => ∃ (A : Option Addr) (n c : Nat) (r : List Nat), e = .returned (.slice A n c) ∧ OwnR srow 1 w' w.heap.size 9 A n c (keysOf p.ctxs r) ∧ Ord (incIx p.ctxs) [i] [] r ∧ r.Nodup ∧ (∀ x ∈ r, x < p.cn) ∧ n ≤ 50 ∧ w.grownBy w' none) := by
 obtain ⟨cA, cn, cc, hA, hn, hc, ctxs, hours⟩ := p
 dsimp only at hm hk hz hcn hen ⊢
 have HM := Lib.hid hm; have HK1 := Lib.hid hk; have HEN := Lib.hid hen
 have HZC := Lib.hid hz
 have hlen := h.ctxs.len
 dsimp only at hlen
 have HLEN := Lib.hid hlen
 have HS := Lib.hid (show ∀ a b, b ∈ incIx ctxs a → b < cn from fun a b hb => by rw [← hlen]; exact incIx_bd hm a b hb)
 obtain ⟨W1, hW⟩ : ∃ W1, w.alloc (.cells #[.slice cA cn cc, .slice hA hn hc] 29) = W1 := ⟨_, rfl⟩
 have HP := Lib.hid (show Blk W1 w.heap.size 29 #[.slice cA cn cc, .slice hA hn hc] by rw [← hW]; exact Blk.new _ _ _)
 have HG := Lib.hid (show w.grownBy W1 none by rw [← hW]; exact gr_alloc (gr_refl _ _) _)
 have H0 := Lib.hid h
 have HW := Lib.hid hW
 have hin : i < cn := by rw [← hlen]; exact (List.getElem?_eq_some_iff.1 hz).1
 obtain ⟨W2, hW2⟩ : ∃ W2, W1.alloc (.cells #[.string z.key] 9) = W2 := ⟨_, rfl⟩
 have hz1 : W1.heap.size = w.heap.size + 1 := by rw [← hW]; simp
 have HT := Lib.hid (show Blk W2 (w.heap.size + 1) 9 #[.string z.key] by rw [← hW2, ← hz1]; exact Blk.new _ _ _)
 have HG2 := Lib.hid (show W1.grownBy W2 none by rw [← hW2]; exact gr_alloc (gr_refl _ _) _)
 have HW2 := Lib.hid hW2
 have HZ1 := Lib.hid hz1
 clear h hm hk hz hen hW hlen hW2 hz1
 go_enter Tryz.func66, Tryz.ntmps66
 go_upto_region 1 with (fail)
 rw [HW.out]
 go_wp2_with fail
 rw [HW2.out, HZ1.out]
 go_loopw [5, 6, 7] (fun v5 v6 _ wr => ∃ (out todo : List Nat) (A : Option Addr) (n c : Nat) (B : Option Addr) (m d : Nat), v5 = .slice A n c ∧ v6 = .slice B m d ∧ (w.grownBy wr none ∧ Blk wr w.heap.size 29 #[.slice cA cn cc, .slice hA hn hc]) ∧ OwnR srow 1 wr w.heap.size 9 A n c (keysOf ctxs out) ∧ Recs srow 1 wr 0 B m d (keysOf ctxs todo) ∧ (∀ g, blkOf A = some g → blkOf B ≠ some g) ∧ (∀ r, Ord (incIx ctxs) todo out r → Ord (incIx ctxs) [i] [] r) ∧ out.Nodup ∧ (∀ x ∈ out, x < cn) ∧ (∀ x ∈ todo, x < cn) ∧ m ≤ 1 + 10 * n) (fun v5 v6 _ _ => (50 - lenV v5) * 11 + lenV v6)
 case atStart =>
   refine ⟨[], [i], none, 0, 0, some ⟨w.heap.size + 1, 0, none⟩, 1, 1, rfl, rfl, ⟨gr_none HG.out HG2.out, HP.out.grown HG2.out (by simp)⟩, OwnR.nil _ _ _, ⟨?_, by rw [keys_len]; rfl⟩, gn_, (fun r h => h), List.nodup_nil, (fun x h => by cases h), (fun x h => by rw [List.mem_singleton.1 h]; exact hin), by omega⟩
   refine Reads.lower (Reads.blk (cs := [.string z.key]) HT.out 1 1 rfl |> fun h => ?_) (Nat.zero_le (w.heap.size + 1))
   have e : keysOf ctxs [i] = [z.key] := by unfold keysOf; simp [HZC.out]
   rw [e]; exact h
 case round =>
   clear HG HG2 HT HP
   obtain ⟨out, todo, A, n, c, B, m, d, rfl, rfl, hS0, ho, hr, hne, hord, hnd, hbo, hbt, hmn⟩ := hrel
   have hn50 : n ≤ 50 := by
     have h1 := nodup_le hnd hbo
     have h2 := ho.2
     rw [keys_len] at h2
     omega
   have HSW := Lib.hid hS0; have HO := Lib.hid ho; have HR := Lib.hid hr; have HNE := Lib.hid hne; have HORD := Lib.hid hord; have HND := Lib.hid hnd; have HBO := Lib.hid hbo; have HBT := Lib.hid hbt
   clear hS0 ho hr hne hord hnd hbo hbt
   rcases Nat.eq_zero_or_pos m with rfl | hm0
   · have HE := Lib.hid (show Ord (incIx ctxs) [i] [] out from HORD.out out (by
       have h1 := HR.out.2
       rw [keys_len] at h1
       rw [List.eq_nil_of_length_eq_zero h1]
       exact .nil))
     go_wp2_with fail
     go_ret
     exact ⟨A, n, c, out, rfl, HO.out, HE.out, HND.out, HBO.out, hn50, HSW.out.1⟩
   · obtain ⟨gB, oB, s, hBA, _, hgB, hs, hcs⟩ := HR.out.get srow_len hm0
     subst hBA
     obtain ⟨k, y, hk1, hk2, hk3⟩ := keys_get hs (fun x hx => by rw [HLEN.out]; exact HBT.out x hx)
     subst hk3
     obtain ⟨rest, hrest⟩ : ∃ rest, todo = k :: rest := by
       cases todo with
       | nil => cases hk1
       | cons a rest => injection hk1 with e; exact ⟨rest, by rw [e]⟩
     subst hrest
     have ks := hcs 0 _ rfl
     simp only [Nat.zero_mul, Nat.add_zero] at ks
     have HKY := Lib.hid hk2
     have hmi : (0 : Int) < (m : Int) := by omega
     have hcapB : m ≤ d := HR.out.cap
     have h1d : 1 ≤ d := by omega
     have hmm : 1 ≤ m := hm0
     obtain ⟨B2, hB2⟩ : ∃ B2, (if d = 1 then some ⟨gB, oB, none⟩ else some ⟨gB, oB + 1, none⟩ : Option Addr) = B2 := ⟨_, rfl⟩
     have HB2 := Lib.hid hB2
     have HTL := Lib.hid (show Recs srow 1 wr 0 B2 (m - 1) (d - 1) (keysOf ctxs rest) by rw [← hB2]; exact recs_tail HR.out)
     have hblk : blkOf B2 = some gB := by rw [← hB2]; split <;> rfl
     have HBK := Lib.hid hblk
     have HMEM := Lib.hid (keys_mem HK1.out (fun x hx => by rw [HLEN.out]; exact HBO.out x hx) hk2)
     have HGB := Lib.hid hgB
     clear hs hcs hk1 hk2 hB2 hblk hgB
     go_upto_region 6 with (fail)
     rw [HB2.out]
     go_wp2_with fail
     refine (containsS_any w.heap.size A n c (keysOf ctxs out) y.key _ HO.out.recs (by omega)).mono ?_
     rintro e w' ⟨rfl, rfl⟩
     rw [show List.any (keysOf ctxs out) (fun x => nb x == nb y.key) = decide (k ∈ out) from HMEM.out]
     by_cases hko : k ∈ out
     · rw [decide_eq_true hko]
       have HN := Lib.hid (show ∀ r, Ord (incIx ctxs) rest out r → Ord (incIx ctxs) [i] [] r from fun r h => HORD.out r (.skip hko h))
       clear hko ks
       go_wp2_with fail
       go_roundw
       case rel => exact ⟨out, rest, A, n, c, B2, m - 1, d - 1, rfl, rfl, HSW.out, HO.out, HTL.out, (fun g e => by rw [HBK.out]; exact HNE.out g e), HN.out, HND.out, HBO.out, (fun x hx => HBT.out x (List.mem_cons_of_mem _ hx)), by omega⟩
       case measure => show (50 - n) * 11 + (m - 1) < (50 - n) * 11 + m; omega
     · rw [decide_eq_false hko]
       have hkc : k < cn := HBT.out k (by simp)
       have HND2 := Lib.hid (nodup_snoc HND.out hko)
       have HBO2 := Lib.hid (show ∀ x ∈ out ++ [k], x < cn from fun x hx => by
         rcases List.mem_append.1 hx with e | e
         · exact HBO.out x e
         · rw [List.mem_singleton.1 e]; exact hkc)
       have n50 : n + 1 ≤ 50 := by
         have h1 := nodup_le HND2.out HBO2.out
         rw [List.length_append] at h1
         have h2 := HO.out.2
         rw [keys_len] at h2
         simp at h1
         omega
       have HN := Lib.hid (show ∀ r, Ord (incIx ctxs) (incIx ctxs k ++ rest) (out ++ [k]) r → Ord (incIx ctxs) [i] [] r from fun r h => HORD.out r (.take hko h))
       clear hko ks
       have zw := HSW.out.1.size
       go_upto_region 8 with (first
         | (at_builtin
            refine wpl_app _ rfl _ _ Tryz.stT rfl w.heap.size A n c _ rfl (by exact HO.out.1.alloc _) _ _ 1 1 [.string y.key] rfl (by exact Reads.one _ _ _ _ rfl) (by simp [Value.oneCell']) (by unfold maxLen; omega) (by omega) (by simp; omega) ?_
            intro A5 c5 w5 h5
            have H5 := Lib.hid h5; clear h5)
         | fail)
       have ha1 := HO.out.alloc (.cells #[.string y.key] 9)
       have hb1 := HSW.out.2.alloc (.cells #[.string y.key] 9)
       have HO5 := Lib.hid (show OwnR srow 1 w5 w.heap.size 9 A5 (n + 1) c5 (keysOf ctxs (out ++ [k])) by rw [keys_snoc ctxs out HKY.out]; exact ha1.app rfl H5.out)
       have HT5 := Lib.hid ((Recs.grown HTL.out (gr_alloc (gr_refl _ none) (.cells #[.string y.key] 9)) gn_).keptR H5.out.2.1 (fun g e => by rw [HBK.out]; exact HNE.out g e))
       have HS5 := Lib.hid (show w.grownBy w5 none ∧ Blk w5 w.heap.size 29 #[.slice cA cn cc, .slice hA hn hc] from ⟨H5.out.gr (gr_alloc HSW.out.1 _) ha1.1 (Nat.le_refl _), hb1.grown H5.out.2.1 (Ne.symm (ha1.1.blk_ne hb1 (by decide)))⟩)
       clear ha1 hb1 HO HSW HNE H5 zw HTL HR HND HBO HORD
       have hkc2 : (k : Int) < (cn : Int) := by omega
       have HKI := Lib.hid (cxIx_at HK1.out HKY.out rfl)
       have yen : y.en ≤ 10 := HEN.out y (mem_of_get HKY.out)
       obtain ⟨g, o, y', hcA, _, hgl, hy', hcc⟩ := H0.out.ctxs.get CxV.row_len hkc
       dsimp only at hcA hy'
       obtain rfl : y = y' := by rw [HKY.out] at hy'; injection hy'
       subst hcA
       clear hy' hcc
       refine H_begin (fun w' => w.grownBy w' none ∧ Blk w' w.heap.size 29 #[.slice (some ⟨g, o, none⟩) cn cc, .slice hA hn hc]) (by kernel_rfl) ?_
       have hHeld : w.grownBy w5.drew none ∧ Blk w5.drew w.heap.size 29 #[.slice (some ⟨g, o, none⟩) cn cc, .slice hA hn hc] := ⟨gr_drew HS5.out.1, HS5.out.2.drew⟩
       refine H_take (k := 0) (v := ?_) (by rfl) (by kernel_rfl) (by kernel_rfl) (by kernel_rfl) (by exact fun _ _ _ h => h) (by rfl) ?_ (by assumption) ?_
       rotate_left 1
       · intro w hSw
         (try dsimp only at hSw)
         go_simp
         (try with_reducible rfl)
       (try simp only [Act.put, l1_, l2_, l3_])
       refine H_take (k := 1) (v := ?_) (by rfl) (by kernel_rfl) (by kernel_rfl) (by kernel_rfl) (by exact fun _ _ _ h => h) (by rfl) ?_ hHeld ?_
       rotate_left 1
       · intro w' hSw
         have kc := hSw.2.cell 0
         go_simp
         (try with_reducible rfl)
       (try simp only [Act.put, l1_, l2_, l3_])
       refine H_take (k := 2) (v := .agg #[.slice (some ⟨g, o, none⟩) cn cc, .slice hA hn hc]) (by rfl) (by kernel_rfl) (by kernel_rfl) (by kernel_rfl) (by exact fun _ _ _ h => h) (by rfl) (fun w' hSw => exec_load_blk' Tryz.plT _ rfl _ rfl 29 [.slice (some ⟨g, o, none⟩) cn cc, .slice hA hn hc] hSw.2 rfl) hHeld ?_
       (try simp only [Act.put, l1_, l2_, l3_])
       refine H_take (k := 3) (v := ?_) (by rfl) (by kernel_rfl) (by kernel_rfl) (by kernel_rfl) (by exact fun _ _ _ h => h) (by rfl) ?_ (by assumption) ?_
       rotate_left 1
       · intro w hSw
         (try dsimp only at hSw)
         go_simp
         (try with_reducible rfl)
       (try simp only [Act.put, l1_, l2_, l3_])
       refine H_take (k := 8) (v := ?_) (by rfl) (by kernel_rfl) (by kernel_rfl) (by kernel_rfl) (by exact fun _ _ _ h => h) (by rfl) ?_ (by assumption) ?_
       rotate_left 1
       · intro w hSw
         (try dsimp only at hSw)
         go_simp
         (try with_reducible rfl)
       (try simp only [Act.put, l1_, l2_, l3_])
       refine H_run (k := 4) (by rfl) (by kernel_rfl) (by rfl) (fun K hK => ?_)
       go_simp
       refine (contextAtR_any lo ⟨some ⟨g, o, none⟩, cn, cc, hA, hn, hc, ctxs, hours⟩ y.key _ (H0.out.ctxs.grown (gr_drew HS5.out.1) gn_) (by dsimp only; omega)).mono ?_
       rintro e w6 ⟨rfl, hg6⟩
       dsimp only
       rw [HKI.out]
       have hS6 : w.grownBy w6 none ∧ Blk w6 w.heap.size 29 #[.slice (some ⟨g, o, none⟩) cn cc, .slice hA hn hc] := ⟨gr_none (gr_drew HS5.out.1) hg6, (HS5.out.2.drew).grown hg6 (by simp)⟩
       refine hK _ _ hS6 ?_
       have HO6 := Lib.hid (HO5.out.low (gr_none (gr_drew (gr_refl w5 none)) hg6) gn_)
       have HT6 := Lib.hid (HT5.out.grown (gr_none (gr_drew (gr_refl w5 none)) hg6) gn_)
       have HS6 := Lib.hid hS6
       clear hK K hHeld hg6 HS5 HO5 HT5
       have hHeld := hS6
       clear hS6
       refine H_take (k := 5) (v := ?_) (by rfl) (by kernel_rfl) (by kernel_rfl) (by kernel_rfl) (by exact fun _ _ _ h => h) (by rfl) ?_ (by assumption) ?_
       rotate_left 1
       · intro w hSw
         (try dsimp only at hSw)
         go_simp
         (try with_reducible rfl)
       (try simp only [Act.put, l1_, l2_, l3_])
       refine H_take (k := 6) (v := ?_) (by rfl) (by kernel_rfl) (by kernel_rfl) (by kernel_rfl) (by exact fun _ _ _ h => h) (by rfl) ?_ (by assumption) ?_
       rotate_left 1
       · intro w hSw
         (try dsimp only at hSw)
         go_simp
         (try with_reducible rfl)
       (try simp only [Act.put, l1_, l2_, l3_])
       refine H_take (k := 7) (v := ?_) (by rfl) (by kernel_rfl) (by kernel_rfl) (by kernel_rfl) (by exact fun _ _ _ h => h) (by rfl) ?_ hHeld ?_
       rotate_left 1
       · intro w' hSw
         have kc := (H0.out.ctxs.grown hSw.1 gn_).at_ CxV.row_len HKY.out 2 _ rfl
         go_simp
         (try with_reducible rfl)
       (try simp only [Act.put, l1_, l2_, l3_])
       refine H_run (k := 9) (by rfl) (by kernel_rfl) (by rfl) (fun K hK => ?_)
       go_simp
       have hS7 : w.grownBy (w6.alloc (.cells #[.slice y.iA y.en y.ic, .slice B2 (m - 1) (d - 1)] 57)) none ∧ Blk (w6.alloc (.cells #[.slice y.iA y.en y.ic, .slice B2 (m - 1) (d - 1)] 57)) w.heap.size 29 #[.slice (some ⟨g, o, none⟩) cn cc, .slice hA hn hc] := ⟨gr_alloc HS6.out.1 _, HS6.out.2.alloc _⟩
       refine hK _ _ hS7 ?_
       clear hK K hHeld
       have hHeld := hS7
       refine H_run (k := 10) (by rfl) (by kernel_rfl) (by rfl) (fun K hK => ?_)
       go_simp
       have hci := H0.out.cok _ (mem_of_get HKY.out)
       refine (concat2_any lo 0 w6.heap.size y.iA B2 y.en y.ic (m - 1) (d - 1) y.incs (keysOf ctxs rest) _ (Blk.new _ _ _) (hci.incs.grown hS7.1 gn_) (HT6.out.grown (gr_alloc (gr_refl _ none) _) gn_) (by omega) (by omega)).mono ?_
       rintro e w8 ⟨A8, n8, c8, rfl, ho8, hg8⟩
       have hS8 : w.grownBy w8 none ∧ Blk w8 w.heap.size 29 #[.slice (some ⟨g, o, none⟩) cn cc, .slice hA hn hc] := ⟨gr_none hS7.1 hg8, hS7.2.grown hg8 (by simp)⟩
       have HO8 := Lib.hid ((HO6.out.alloc _).low hg8 gn_)
       have hn8 : n8 = y.en + (m - 1) := by
         have h1 := ho8.2
         rw [List.length_append, keys_len] at h1
         have h2 := hci.incs.len
         have h3 := HT6.out.2
         rw [keys_len] at h3
         omega
       have HN8 := Lib.hid hn8
       clear hn8
       have HE8 := Lib.hid (show keysOf ctxs (incIx ctxs k ++ rest) = y.incs ++ keysOf ctxs rest by rw [keys_app, keys_inc HM.out HKY.out])
       have HT8 := Lib.hid (show Recs srow 1 w8 0 A8 n8 c8 (keysOf ctxs (incIx ctxs k ++ rest)) by rw [HE8.out]; exact ho8.recs.lower (Nat.zero_le _))
       have HNE8 := Lib.hid (show ∀ g, blkOf A5 = some g → blkOf A8 ≠ some g from fun g e e' => by
         have h1 := (HO6.out.1.lt e).2
         have h2 := (ho8.1.lt e').1
         simp at h2
         omega)
       have HS8 := Lib.hid hS8
       refine hK _ _ hS8 ?_
       clear hK K hHeld hS7 hS8 ho8 hg8 hci HE8
       have hHeld := HS8.out
       refine H_take (k := 11) (v := ?_) (by rfl) (by kernel_rfl) (by kernel_rfl) (by kernel_rfl) (by exact fun _ _ _ h => h) (by rfl) ?_ (by assumption) ?_
       rotate_left 1
       · intro w hSw
         (try dsimp only at hSw)
         go_simp
         (try with_reducible rfl)
       (try simp only [Act.put, l1_, l2_, l3_])
       refine H_done (by kernel_rfl) ?_
       clear hHeld
       go_wp2_with fail
       go_roundw
       case rel => exact ⟨out ++ [k], incIx ctxs k ++ rest, A5, n + 1, c5, A8, n8, c8, rfl, rfl, HS8.out, HO8.out, HT8.out, HNE8.out, HN.out, HND2.out, HBO2.out, (fun x hx => by
         rcases List.mem_append.1 hx with e | e
         · exact HS.out k x e
         · exact HBT.out x (List.mem_cons_of_mem _ e)), by have := HN8.out; omega⟩
       case measure => show (50 - (n + 1)) * 11 + n8 < (50 - n) * 11 + m; have := HN8.out; omega
end
end Go.Proofs.YteppdabhloieaaaGreatDoor

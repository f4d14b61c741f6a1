/- Contracts of the document's after and PlanFault. Conditions: none. -/
import Derived.Test.YtpjheibkacbbcaaGreatDoorPlan3
import Derived.Test.YtpjheibkacbbcaaGreatDoorBun1
import Derived.Test.YtpjheibkacbbcaaGreatDoorBun6
import Derived.Test.YtpjheibkacbbcaaGreatDoorBun8
namespace Go.Proofs.YtpjheibkacbbcaaGreatDoor
section
open Go.RowKit

/-! Plain words on keys. -/
theorem keys_snoc (l : List CxV) (is : List Nat) {k : Nat} {z : CxV} (h : l[k]? = some z) : keysOf l (is ++ [k]) = keysOf l is ++ [z.key] := by unfold keysOf; rw [List.map_append]; simp [h]
theorem keys_app (l : List CxV) (a b : List Nat) : keysOf l (a ++ b) = keysOf l a ++ keysOf l b := by unfold keysOf; rw [List.map_append]
theorem keys_len (l : List CxV) (is : List Nat) : (keysOf l is).length = is.length := by unfold keysOf; rw [List.length_map]
theorem keys_inc {l : List CxV} {k : Nat} {z : CxV} (hm : misB l = false) (h : l[k]? = some z) : keysOf l (incIx l k) = z.incs := by
  rw [incIx_at h]
  unfold keysOf
  rw [List.map_map]
  have : ∀ s ∈ z.incs, ((fun i => (l[i]?).elim (⟨#[]⟩ : ByteArray) (·.key)) ∘ fun s => (cxIx l s).toNat) s = s := fun s hs => by
    obtain ⟨i, y, e, hy, hk⟩ := cxIx_some (mis_no hm h hs)
    show (l[(cxIx l s).toNat]?).elim (⟨#[]⟩ : ByteArray) (·.key) = s
    rw [e]
    show (l[i]?).elim (⟨#[]⟩ : ByteArray) (·.key) = s
    rw [hy]
    exact nb_inj hk
  rw [List.map_congr_left this, List.map_id']
theorem keys_get {l : List CxV} {is : List Nat} {q : Nat} {s : ByteArray} (h : (keysOf l is)[q]? = some s) (hb : ∀ x ∈ is, x < l.length) : ∃ k z, is[q]? = some k ∧ l[k]? = some z ∧ z.key = s := by
  unfold keysOf at h
  rw [List.getElem?_map] at h
  cases hq : is[q]? with
  | none => rw [hq] at h; cases h
  | some k =>
    rw [hq] at h
    have hk := hb k (List.mem_iff_getElem?.2 ⟨q, hq⟩)
    refine ⟨k, l[k], rfl, List.getElem?_eq_getElem hk, ?_⟩
    simp only [Option.map_some, List.getElem?_eq_getElem hk] at h
    injection h
theorem keys_mem {l : List CxV} {is : List Nat} {i : Nat} {z : CxV} (hk : Keyed1 l) (hb : ∀ x ∈ is, x < l.length) (h : l[i]? = some z) : (keysOf l is).any (fun x => nb x == nb z.key) = decide (i ∈ is) := by
  rw [Bool.eq_iff_iff, List.any_eq_true, decide_eq_true_eq]
  constructor
  · rintro ⟨x, hx, hp⟩
    obtain ⟨q, hq⟩ := List.mem_iff_getElem?.1 hx
    obtain ⟨k, y, h1, h2, h3⟩ := keys_get hq hb
    have := hk k i y z h2 h (by rw [h3]; simpa using hp)
    subst this
    exact List.mem_iff_getElem?.2 ⟨q, h1⟩
  · intro hi
    refine ⟨z.key, ?_, by simp⟩
    unfold keysOf
    exact List.mem_map.2 ⟨i, hi, by rw [h]; rfl⟩
theorem drop_get {α : Type} {l : List α} {q : Nat} {a : α} (h : l[q]? = some a) : l.drop q = a :: l.drop (q + 1) := by
  obtain ⟨hl, rfl⟩ := List.getElem?_eq_some_iff.1 h
  exact List.drop_eq_getElem_cons hl
theorem Recs.keptR {α : Type} {row : α → List Value} {k : Nat} {w w' : World} {lo n c : Nat} {A : Option Addr} {l : List α} (h : Recs row k w lo A n c l) {r : Option Nat} (hg : w.grownBy w' r) (hne : ∀ g, r = some g → blkOf A ≠ some g) : Recs row k w' lo A n c l :=
  ⟨⟨h.1.1, h.1.2.1, fun hp => by
    obtain ⟨g, o, e, h1, h2, h3⟩ := h.1.2.2 hp
    subst e
    exact ⟨g, o, rfl, h1, Nat.lt_of_lt_of_le h2 hg.size, fun j u hu => (World.cell?_of_block (hg.block g h2 (fun e => hne g e.symm rfl))).trans (h3 j u hu)⟩⟩, h.2⟩
def lenV : Value → Nat
  | .slice _ n _ => n
  | _ => 0
theorem Tryz.stT : ElemT Tryz.prog 27 9 1 16 (.string ⟨#[]⟩) := elemT_of Tryz.underlying27 (by kernel_rfl) rfl (by decide)
theorem own_app {w w' : World} {lo n c m n1 c1 : Nat} {A A1 : Option Addr} {l l' : List ByteArray} (h : OwnR srow 1 w lo 9 A n c l) (hm : l'.length = m) (hn : n1 = n + m) (h1 : Appended w lo 9 1 A A1 n1 c1 (l.flatMap srow ++ l'.flatMap srow) w') : OwnR srow 1 w' lo 9 A1 n1 c1 (l ++ l') :=
  ⟨by rw [List.flatMap_append]; exact h1.1, by rw [List.length_append, h.2, hm, hn]⟩
theorem srow_one {l : List ByteArray} : ∀ u ∈ l.flatMap srow, u.oneCell' = true := fun u hu => by
  obtain ⟨s, _, hs⟩ := List.mem_flatMap.1 hu
  unfold srow at hs
  rw [List.mem_singleton.1 hs]; rfl
set_option maxHeartbeats 16000000 in
set_option maxRecDepth 100000 in
theorem after_any (lo : Nat) (p : PlV) (i : Nat) (z : CxV) (w : World) (h : PlOk w lo p) (hm : misB p.ctxs = false) (hk : Keyed1 p.ctxs) (hz : p.ctxs[i]? = some z) (hcn : p.cn ≤ 50) (hen : ∀ c ∈ p.ctxs, c.en ≤ 10) :
    Calls Tryz.prog 89 #[.agg #[.slice p.cA p.cn p.cc, .slice p.hA p.hn p.hc], .string z.key] w (fun e w' => ∃ (A : Option Addr) (n c : Nat) (out : List Nat), e = .returned (.slice A n c) ∧ OwnR srow 1 w' w.heap.size 9 A n c (keysOf p.ctxs out) ∧ (∀ x, x ∈ out ↔ Path (incIx p.ctxs) i x) ∧ n ≤ 50 ∧ w.grownBy w' none) := by
  obtain ⟨cA, cn, cc, hA, hn, hc, ctxs, hours⟩ := p
  dsimp only at hm hk hz hcn hen ⊢
  have HKX := Lib.hid (cxIx_at hk hz rfl)
  have HK1 := Lib.hid hk; have HM := Lib.hid hm; have HZC := Lib.hid hz; have HEN := Lib.hid hen
  obtain ⟨W1, hW⟩ : ∃ W1, w.alloc (.cells #[.slice cA cn cc, .slice hA hn hc] 48) = W1 := ⟨_, rfl⟩
  have HP := Lib.hid (show Blk W1 w.heap.size 48 #[.slice cA cn cc, .slice hA hn hc] by rw [← hW]; exact Blk.new _ _ _)
  have HG := Lib.hid (show w.grownBy W1 none by rw [← hW]; exact gr_alloc (gr_refl _ _) _)
  have H0 := Lib.hid h
  have HW := Lib.hid hW
  have hlen := h.ctxs.len
  dsimp only at hlen
  have HLEN := Lib.hid hlen
  have HS := Lib.hid (show ∀ a b, b ∈ incIx ctxs a → b < cn from fun a b hb => by rw [← hlen]; exact incIx_bd hm a b hb)
  have hin : i < cn := by rw [← hlen]; exact (List.getElem?_eq_some_iff.1 hz).1
  have hin2 : (i : Int) < (cn : Int) := by omega
  obtain ⟨g, o, z', hcA, _, hgl, hz', hcc⟩ := h.ctxs.get CxV.row_len hin
  dsimp only at hcA hz'
  obtain rfl : z = z' := by rw [hz] at hz'; injection hz'
  subst hcA
  have en10 : z.en ≤ 10 := hen z (mem_of_get hz)
  clear h hk hm hz hen hW hz' hcc hlen hgl
  go_enter Tryz.func89, Tryz.ntmps89
  go_upto_region 2 with (fail)
  rw [HW.out]
  refine H_begin (fun w' => w.grownBy w' none ∧ Blk w' w.heap.size 48 #[.slice (some ⟨g, o, none⟩) cn cc, .slice hA hn hc]) (by kernel_rfl) ?_
  have hHeld : w.grownBy W1.drew none ∧ Blk W1.drew w.heap.size 48 #[.slice (some ⟨g, o, none⟩) cn cc, .slice hA hn hc] := ⟨gr_drew HG.out, HP.out.drew⟩
  refine H_take (k := 0) (v := ?_) (by rfl) (by kernel_rfl) (by kernel_rfl) (by kernel_rfl) (by exact fun _ _ _ h => h) (by rfl) ?_ (by assumption) ?_
  rotate_left 1
  · intro w hSw
    (try dsimp only at hSw)
    go_simp
    (try with_reducible rfl)
  (try simp only [Act.put, List.setIfInBounds_toArray, List.set_cons_zero, List.set_cons_succ])
  refine H_take (k := 1) (v := ?_) (by rfl) (by kernel_rfl) (by kernel_rfl) (by kernel_rfl) (by exact fun _ _ _ h => h) (by rfl) ?_ hHeld ?_
  rotate_left 1
  · intro w' hSw
    have kc := hSw.2.cell 0
    go_simp
    (try with_reducible rfl)
  (try simp only [Act.put, List.setIfInBounds_toArray, List.set_cons_zero, List.set_cons_succ])
  refine H_take (k := 2) (v := .agg #[.slice (some ⟨g, o, none⟩) cn cc, .slice hA hn hc]) (by rfl) (by kernel_rfl) (by kernel_rfl) (by kernel_rfl) (by exact fun _ _ _ h => h) (by rfl) (fun w' hSw => exec_load_blk' Tryz.plT _ rfl _ rfl 48 [.slice (some ⟨g, o, none⟩) cn cc, .slice hA hn hc] hSw.2 rfl) hHeld ?_
  (try simp only [Act.put, List.setIfInBounds_toArray, List.set_cons_zero, List.set_cons_succ])
  refine H_take (k := 3) (v := ?_) (by rfl) (by kernel_rfl) (by kernel_rfl) (by kernel_rfl) (by exact fun _ _ _ h => h) (by rfl) ?_ (by assumption) ?_
  rotate_left 1
  · intro w hSw
    (try dsimp only at hSw)
    go_simp
    (try with_reducible rfl)
  (try simp only [Act.put, List.setIfInBounds_toArray, List.set_cons_zero, List.set_cons_succ])
  refine H_run (k := 4) (by rfl) (by kernel_rfl) (by rfl) (fun K hK => ?_)
  go_simp
  refine (contextAtR_any lo ⟨some ⟨g, o, none⟩, cn, cc, hA, hn, hc, ctxs, hours⟩ z.key _ (H0.out.ctxs.grown (gr_drew HG.out) (fun g e => by cases e)) (by dsimp only; omega)).mono ?_
  rintro e w2 ⟨rfl, hg2⟩
  dsimp only
  rw [HKX.out]
  have hS2 : w.grownBy w2 none ∧ Blk w2 w.heap.size 48 #[.slice (some ⟨g, o, none⟩) cn cc, .slice hA hn hc] := ⟨gr_none (gr_drew HG.out) hg2, (HP.out.drew).grown hg2 (by simp)⟩
  refine hK _ _ hS2 ?_
  clear hK K hHeld hg2
  have hHeld := hS2
  clear hS2
  refine H_take (k := 5) (v := ?_) (by rfl) (by kernel_rfl) (by kernel_rfl) (by kernel_rfl) (by exact fun _ _ _ h => h) (by rfl) ?_ (by assumption) ?_
  rotate_left 1
  · intro w hSw
    (try dsimp only at hSw)
    go_simp
    (try with_reducible rfl)
  (try simp only [Act.put, List.setIfInBounds_toArray, List.set_cons_zero, List.set_cons_succ])
  refine H_take (k := 6) (v := ?_) (by rfl) (by kernel_rfl) (by kernel_rfl) (by kernel_rfl) (by exact fun _ _ _ h => h) (by rfl) ?_ (by assumption) ?_
  rotate_left 1
  · intro w hSw
    (try dsimp only at hSw)
    go_simp
    (try with_reducible rfl)
  (try simp only [Act.put, List.setIfInBounds_toArray, List.set_cons_zero, List.set_cons_succ])
  refine H_take (k := 7) (v := ?_) (by rfl) (by kernel_rfl) (by kernel_rfl) (by kernel_rfl) (by exact fun _ _ _ h => h) (by rfl) ?_ hHeld ?_
  rotate_left 1
  · intro w' hSw
    have kc := (H0.out.ctxs.grown hSw.1 (fun g e => by cases e)).at_ CxV.row_len HZC.out 2 _ rfl
    go_simp
    (try with_reducible rfl)
  (try simp only [Act.put, List.setIfInBounds_toArray, List.set_cons_zero, List.set_cons_succ])
  refine H_take (k := 8) (v := ?_) (by rfl) (by kernel_rfl) (by kernel_rfl) (by kernel_rfl) (by exact fun _ _ _ h => h) (by rfl) ?_ (by assumption) ?_
  rotate_left 1
  · intro w hSw
    (try dsimp only at hSw)
    go_simp
    (try with_reducible rfl)
  (try simp only [Act.put, List.setIfInBounds_toArray, List.set_cons_zero, List.set_cons_succ])
  refine H_done (by kernel_rfl) ?_
  have HHB := Lib.hid hHeld
  clear hHeld HG HP
  obtain ⟨wo, rfl⟩ : ∃ wo : World, wo = w2 := ⟨_, rfl⟩
  go_wp2_with fail
  go_loopw [5, 6, 7, 9] (fun v5 v6 _ _ wr => ∃ (out nx : List Nat) (A : Option Addr) (n c : Nat) (B : Option Addr) (m d : Nat), v5 = .slice A n c ∧ v6 = .slice B m d ∧ (w.grownBy wr none ∧ Blk wr w.heap.size 48 #[.slice (some ⟨g, o, none⟩) cn cc, .slice hA hn hc]) ∧ OwnR srow 1 wr w.heap.size 9 A n c (keysOf ctxs out) ∧ Recs srow 1 wr 0 B m d (keysOf ctxs nx) ∧ (∀ g, blkOf A = some g → blkOf B ≠ some g) ∧ AfInv (incIx ctxs) cn i out nx ∧ m ≤ 1000) (fun v5 v6 _ _ _ => (50 - lenV v5) * 2 + min (lenV v6) 1)
  case atStart =>
    have HC := H0.out.cok _ (mem_of_get HZC.out)
    refine ⟨[], incIx ctxs i, none, 0, 0, z.iA, z.en, z.ic, rfl, rfl, HHB.out, OwnR.nil _ _ _, ?_, (fun g e => by cases e), AfInv.new _ _ _, by omega⟩
    rw [keys_inc HM.out HZC.out]
    exact (HC.incs.grown HHB.out.1 (fun g e => by cases e)).lower (Nat.zero_le _)
  case round =>
    clear HHB
    obtain ⟨out, nx, A, n, c, B, m, d, rfl, rfl, hS0, ho, hr, hne, hinv, hm⟩ := hrel
    have HSW := Lib.hid hS0; have HO := Lib.hid ho; have HR := Lib.hid hr; have HNE := Lib.hid hne; have HI := Lib.hid hinv
    have hn50 : n ≤ 50 := by
      have h1 := hinv.bd HS.out
      skip
      have h2 := ho.2
      rw [keys_len] at h2
      omega
    clear hS0 ho hr hne hinv
    by_cases hm0 : 0 < m
    · have hmi : (0 : Int) < (m : Int) := by omega
      obtain ⟨wv, rfl⟩ : ∃ wv : World, wv = wr := ⟨_, rfl⟩
      go_wp2_with fail
      go_loopw [5, 7, 9, 23] (fun v5 v7 _ t wr => ∃ (q : Nat) (out' more : List Nat) (A' : Option Addr) (n' c' : Nat) (D : Option Addr) (m2 d2 : Nat), q ≤ m ∧ t = .int .i64 q ∧ v5 = .slice A' n' c' ∧ v7 = .slice D m2 d2 ∧ (w.grownBy wr none ∧ Blk wr w.heap.size 48 #[.slice (some ⟨g, o, none⟩) cn cc, .slice hA hn hc]) ∧ OwnR srow 1 wr w.heap.size 9 A' n' c' (keysOf ctxs out') ∧ OwnR srow 1 wr w.heap.size 9 D m2 d2 (keysOf ctxs more) ∧ Recs srow 1 wr 0 B m d (keysOf ctxs nx) ∧ ((∀ g, blkOf A' = some g → blkOf B ≠ some g) ∧ (∀ g, blkOf D = some g → blkOf B ≠ some g) ∧ (∀ g, blkOf A' = some g → blkOf D ≠ some g)) ∧ AfInv (incIx ctxs) cn i out' (nx.drop q ++ more) ∧ n ≤ n' ∧ m2 ≤ 10 * (n' - n)) (fun _ _ _ t _ => m - (intOf t).toNat)
      case atStart => exact ⟨0, out, [], A, n, c, none, 0, 0, Nat.zero_le _, rfl, rfl, rfl, HSW.out, HO.out, OwnR.nil _ _ _, HR.out, ⟨HNE.out, (fun g e => by cases e), fun g e e' => by cases e'⟩, by simpa using HI.out, Nat.le_refl _, by omega⟩
      case round =>
        clear HSW HO HR HNE HI hn50
        obtain ⟨q, out', more, A', n', c', D, m2, d2, hq, rfl, rfl, rfl, hS0, ho, hd, hr, hne, hinv, hnn, hm2⟩ := hrel
        have HSW := Lib.hid hS0; have HO := Lib.hid ho; have HD := Lib.hid hd; have HR := Lib.hid hr; have HNE := Lib.hid hne; have HI := Lib.hid hinv
        have hn50 : n' ≤ 50 := by
          have h1 := hinv.bd HS.out
          skip
          have h2 := ho.2
          rw [keys_len] at h2
          omega
        have hob : ∀ x ∈ out', x < ctxs.length := fun x hx => by rw [HLEN.out]; exact (hinv.outP x hx).bd HS.out
        have hpb : ∀ x ∈ nx.drop q ++ more, x < ctxs.length := fun x hx => by rw [HLEN.out]; exact (hinv.pendP x hx).bd HS.out
        have HOB := Lib.hid hob
        by_cases hlt : q < m
        · obtain ⟨gB, oB, s, hBA, _, hgB, hs, hcs⟩ := hr.get srow_len hlt
          subst hBA
          obtain ⟨k, y, hk1, hk2, hk3⟩ : ∃ k y, nx[q]? = some k ∧ ctxs[k]? = some y ∧ y.key = s := by
            unfold keysOf at hs
            rw [List.getElem?_map] at hs
            cases hq2 : nx[q]? with
            | none => rw [hq2] at hs; cases hs
            | some k =>
              have hkl := hpb k (List.mem_append.2 (.inl (by rw [drop_get hq2]; simp)))
              rw [hq2] at hs
              refine ⟨k, ctxs[k], rfl, List.getElem?_eq_getElem hkl, ?_⟩
              simp only [Option.map_some, List.getElem?_eq_getElem hkl] at hs
              injection hs
          subst hk3
          have ks := hcs 0 _ rfl
          simp only [Nat.mul_one, Nat.add_zero] at ks
          have HKN := Lib.hid hk1; have HKY := Lib.hid hk2
          have HI2 := Lib.hid (show AfInv (incIx ctxs) cn i out' (k :: (nx.drop (q + 1) ++ more)) by rw [← List.cons_append, ← drop_get hk1]; exact hinv)
          have hqm : (q : Int) < (m : Int) := by omega
          have HMEM := Lib.hid (keys_mem HK1.out hob hk2)
          clear hS0 ho hd hr hne hinv hob hpb hs hcs hk1 hk2
          go_wp2_with fail
          refine (containsS_any w.heap.size A' n' c' (keysOf ctxs out') y.key _ HO.out.recs (by omega)).mono ?_
          rintro e w' ⟨rfl, rfl⟩
          rw [show List.any (keysOf ctxs out') (fun x => nb x == nb y.key) = decide (k ∈ out') from HMEM.out]
          by_cases hko : k ∈ out'
          · rw [decide_eq_true hko]
            have HN := Lib.hid (HI2.out.skip hko)
            clear hko ks
            go_wp2_with fail
            go_roundw
            case rel => exact ⟨q + 1, out', more, A', n', c', D, m2, d2, by omega, by go_num, rfl, rfl, HSW.out, HO.out, HD.out, HR.out, HNE.out, HN.out, hnn, hm2⟩
            case measure => simp [intOf]; omega
          · rw [decide_eq_false hko]
            have HN := Lib.hid (HI2.out.take hko)
            have n50 : n' + 1 ≤ 50 := by
              have h1 := HN.out.bd HS.out
              rw [List.length_append] at h1
              have h2 := HO.out.2
              rw [keys_len] at h2
              simp at h1
              omega
            clear hko ks
            have zw := HSW.out.1.size
            go_upto_region 10 with (first
              | (at_builtin
                 refine wpl_app _ rfl _ _ Tryz.stT rfl w.heap.size A' n' c' _ rfl (by exact HO.out.1.alloc _) _ _ 1 1 [.string y.key] rfl (by exact Reads.one _ _ _ _ rfl) (by simp [Value.oneCell']) (by unfold maxLen; omega) (by omega) (by simp; omega) ?_
                 intro A5 c5 w5 h5
                 have H5 := Lib.hid h5; clear h5)
              | fail)
            have ha1 := HO.out.alloc (.cells #[.string y.key] 9)
            have hb1 := HSW.out.2.alloc (.cells #[.string y.key] 9)
            have HO5 := Lib.hid (show OwnR srow 1 w5 w.heap.size 9 A5 (n' + 1) c5 (keysOf ctxs (out' ++ [k])) by rw [keys_snoc ctxs out' HKY.out]; exact ha1.app rfl H5.out)
            have HD5 := Lib.hid ((HD.out.alloc (.cells #[.string y.key] 9)).kept H5.out.2.1 (fun g e => HNE.out.2.2 g e))
            have HR5 := Lib.hid ((Recs.grown HR.out (gr_alloc (gr_refl _ none) (.cells #[.string y.key] 9)) (fun g e => by cases e)).keptR H5.out.2.1 (fun g e => HNE.out.1 g e))
            have HS5 := Lib.hid (show w.grownBy w5 none ∧ Blk w5 w.heap.size 48 #[.slice (some ⟨g, o, none⟩) cn cc, .slice hA hn hc] from ⟨H5.out.gr (gr_alloc HSW.out.1 _) ha1.1 (Nat.le_refl _), hb1.grown H5.out.2.1 (Ne.symm (ha1.1.blk_ne hb1 (by decide)))⟩)
            have HNE5 := Lib.hid (show (∀ g, blkOf A5 = some g → blkOf (some ⟨gB, oB, none⟩) ≠ some g) ∧ (∀ g, blkOf D = some g → blkOf (some ⟨gB, oB, none⟩) ≠ some g) ∧ (∀ g, blkOf A5 = some g → blkOf D ≠ some g) from by
              refine ⟨fun g e e' => ?_, HNE.out.2.1, fun g e e' => ?_⟩
              · rcases H5.out.2.2 g e with q1 | q1
                · exact HNE.out.1 g q1 e'
                · simp [blkOf] at e'; simp at q1; omega
              · rcases H5.out.2.2 g e with q1 | q1
                · exact HNE.out.2.2 g q1 e'
                · have := (HD.out.1.lt e').2; simp at q1; omega)
            clear ha1 hb1 HO HD HR HSW HNE H5 zw
            have hkc : k < cn := by rw [← HLEN.out]; exact (List.getElem?_eq_some_iff.1 HKY.out).1
            have hkc2 : (k : Int) < (cn : Int) := by omega
            have HKI := Lib.hid (cxIx_at HK1.out HKY.out rfl)
            have yen : y.en ≤ 10 := HEN.out y (mem_of_get HKY.out)
            refine H_begin (fun w' => w.grownBy w' none ∧ Blk w' w.heap.size 48 #[.slice (some ⟨g, o, none⟩) cn cc, .slice hA hn hc]) (by kernel_rfl) ?_
            have hHeld : w.grownBy w5.drew none ∧ Blk w5.drew w.heap.size 48 #[.slice (some ⟨g, o, none⟩) cn cc, .slice hA hn hc] := ⟨gr_drew HS5.out.1, HS5.out.2.drew⟩
            refine H_take (k := 0) (v := ?_) (by rfl) (by kernel_rfl) (by kernel_rfl) (by kernel_rfl) (by exact fun _ _ _ h => h) (by rfl) ?_ (by assumption) ?_
            rotate_left 1
            · intro w hSw
              (try dsimp only at hSw)
              go_simp
              (try with_reducible rfl)
            (try simp only [Act.put, List.setIfInBounds_toArray, List.set_cons_zero, List.set_cons_succ])
            refine H_take (k := 1) (v := ?_) (by rfl) (by kernel_rfl) (by kernel_rfl) (by kernel_rfl) (by exact fun _ _ _ h => h) (by rfl) ?_ (by assumption) ?_
            rotate_left 1
            · intro w hSw
              (try dsimp only at hSw)
              go_simp
              (try with_reducible rfl)
            (try simp only [Act.put, List.setIfInBounds_toArray, List.set_cons_zero, List.set_cons_succ])
            refine H_take (k := 2) (v := ?_) (by rfl) (by kernel_rfl) (by kernel_rfl) (by kernel_rfl) (by exact fun _ _ _ h => h) (by rfl) ?_ hHeld ?_
            rotate_left 1
            · intro w' hSw
              have kc := hSw.2.cell 0
              go_simp
              (try with_reducible rfl)
            (try simp only [Act.put, List.setIfInBounds_toArray, List.set_cons_zero, List.set_cons_succ])
            refine H_take (k := 3) (v := .agg #[.slice (some ⟨g, o, none⟩) cn cc, .slice hA hn hc]) (by rfl) (by kernel_rfl) (by kernel_rfl) (by kernel_rfl) (by exact fun _ _ _ h => h) (by rfl) (fun w' hSw => exec_load_blk' Tryz.plT _ rfl _ rfl 48 [.slice (some ⟨g, o, none⟩) cn cc, .slice hA hn hc] hSw.2 rfl) hHeld ?_
            (try simp only [Act.put, List.setIfInBounds_toArray, List.set_cons_zero, List.set_cons_succ])
            refine H_take (k := 4) (v := ?_) (by rfl) (by kernel_rfl) (by kernel_rfl) (by kernel_rfl) (by exact fun _ _ _ h => h) (by rfl) ?_ (by assumption) ?_
            rotate_left 1
            · intro w hSw
              (try dsimp only at hSw)
              go_simp
              (try with_reducible rfl)
            (try simp only [Act.put, List.setIfInBounds_toArray, List.set_cons_zero, List.set_cons_succ])
            refine H_run (k := 5) (by rfl) (by kernel_rfl) (by rfl) (fun K hK => ?_)
            go_simp
            refine (contextAtR_any lo ⟨some ⟨g, o, none⟩, cn, cc, hA, hn, hc, ctxs, hours⟩ y.key _ (H0.out.ctxs.grown (gr_drew HS5.out.1) (fun g e => by cases e)) (by dsimp only; omega)).mono ?_
            rintro e w6 ⟨rfl, hg6⟩
            dsimp only
            rw [HKI.out]
            have hS6 : w.grownBy w6 none ∧ Blk w6 w.heap.size 48 #[.slice (some ⟨g, o, none⟩) cn cc, .slice hA hn hc] := ⟨gr_none (gr_drew HS5.out.1) hg6, (HS5.out.2.drew).grown hg6 (by simp)⟩
            refine hK _ _ hS6 ?_
            have HO6 := Lib.hid (HO5.out.low (gr_none (gr_drew (gr_refl w5 none)) hg6) (fun g e => by cases e))
            have HD6 := Lib.hid (HD5.out.low (gr_none (gr_drew (gr_refl w5 none)) hg6) (fun g e => by cases e))
            have HR6 := Lib.hid (HR5.out.grown (gr_none (gr_drew (gr_refl w5 none)) hg6) (fun g e => by cases e))
            have HS6 := Lib.hid hS6
            clear hK K hHeld hg6 HS5 HO5 HD5 HR5
            have hHeld := hS6
            clear hS6
            refine H_take (k := 6) (v := ?_) (by rfl) (by kernel_rfl) (by kernel_rfl) (by kernel_rfl) (by exact fun _ _ _ h => h) (by rfl) ?_ (by assumption) ?_
            rotate_left 1
            · intro w hSw
              (try dsimp only at hSw)
              go_simp
              (try with_reducible rfl)
            (try simp only [Act.put, List.setIfInBounds_toArray, List.set_cons_zero, List.set_cons_succ])
            refine H_take (k := 7) (v := ?_) (by rfl) (by kernel_rfl) (by kernel_rfl) (by kernel_rfl) (by exact fun _ _ _ h => h) (by rfl) ?_ (by assumption) ?_
            rotate_left 1
            · intro w hSw
              (try dsimp only at hSw)
              go_simp
              (try with_reducible rfl)
            (try simp only [Act.put, List.setIfInBounds_toArray, List.set_cons_zero, List.set_cons_succ])
            refine H_take (k := 8) (v := ?_) (by rfl) (by kernel_rfl) (by kernel_rfl) (by kernel_rfl) (by exact fun _ _ _ h => h) (by rfl) ?_ hHeld ?_
            rotate_left 1
            · intro w' hSw
              have kc := (H0.out.ctxs.grown hSw.1 (fun g e => by cases e)).at_ CxV.row_len HKY.out 2 _ rfl
              go_simp
              (try with_reducible rfl)
            (try simp only [Act.put, List.setIfInBounds_toArray, List.set_cons_zero, List.set_cons_succ])
            refine H_run (k := 9) (by rfl) (by kernel_rfl) (by rfl) (fun K hK => ?_)
            have hci := H0.out.cok _ (mem_of_get HKY.out)
            refine wp_app _ _ _ Tryz.stT (by rfl) w.heap.size D m2 d2 _ (by rfl) (by exact HD6.out.1) lo y.iA y.en y.ic (y.incs.flatMap srow) (by rfl) (by exact (hci.incs.grown HS6.out.1 (fun g e => by cases e)).1) srow_one (by unfold maxLen; omega) (by omega) HS6.out.1.size ?_
            intro A7 c7 w7 h7
            have HO7 := Lib.hid (HO6.out.kept h7.2.1 (fun g e e' => HNE5.out.2.2 g e' e))
            have HR7 := Lib.hid (HR6.out.keptR h7.2.1 (fun g e => HNE5.out.2.1 g e))
            have hS7 : w.grownBy w7 none ∧ Blk w7 w.heap.size 48 #[.slice (some ⟨g, o, none⟩) cn cc, .slice hA hn hc] := ⟨h7.gr HS6.out.1 HD6.out.1 (Nat.le_refl _), HS6.out.2.grown h7.2.1 (Ne.symm (HD6.out.1.blk_ne HS6.out.2 (by decide)))⟩
            have HD7 := Lib.hid (show OwnR srow 1 w7 w.heap.size 9 A7 (m2 + y.en) c7 (keysOf ctxs (more ++ incIx ctxs k)) by
              rw [keys_app, keys_inc HM.out HKY.out]
              exact own_app HD6.out hci.incs.len rfl h7)
            have HNE7 := Lib.hid (show (∀ g, blkOf A5 = some g → blkOf (some ⟨gB, oB, none⟩) ≠ some g) ∧ (∀ g, blkOf A7 = some g → blkOf (some ⟨gB, oB, none⟩) ≠ some g) ∧ (∀ g, blkOf A5 = some g → blkOf A7 ≠ some g) from by
              refine ⟨HNE5.out.1, fun g e e' => ?_, fun g e e' => ?_⟩
              · rcases h7.2.2 g e with q1 | q1
                · exact HNE5.out.2.1 g q1 e'
                · have := HR6.out.1.2.2 (by omega)
                  obtain ⟨g1, o1, e1, _, e2, _⟩ := this
                  injection e1 with e1
                  injection e1 with e3 e4
                  simp [blkOf] at e'
                  omega
              · rcases h7.2.2 g e' with q1 | q1
                · exact HNE5.out.2.2 g e q1
                · have := (HO6.out.1.lt e).2; omega)
            refine hK _ _ hS7 ?_
            have HS7 := Lib.hid hS7
            clear hK K hHeld h7 hS7 hci HS6 HO6 HD6 HR6 HNE5
            have hHeld := HS7.out
            refine H_take (k := 10) (v := ?_) (by rfl) (by kernel_rfl) (by kernel_rfl) (by kernel_rfl) (by exact fun _ _ _ h => h) (by rfl) ?_ (by assumption) ?_
            rotate_left 1
            · intro w hSw
              (try dsimp only at hSw)
              go_simp
              (try with_reducible rfl)
            (try simp only [Act.put, List.setIfInBounds_toArray, List.set_cons_zero, List.set_cons_succ])
            refine H_done (by kernel_rfl) ?_
            go_wp2_with fail
            go_roundw
            case rel => exact ⟨q + 1, out' ++ [k], more ++ incIx ctxs k, A5, n' + 1, c5, A7, m2 + y.en, c7, by omega, by go_num, rfl, rfl, HS7.out, HO7.out, HD7.out, HR7.out, HNE7.out, by rw [← List.append_assoc]; exact HN.out, by omega, by omega⟩
            case measure => simp [intOf]; omega
        · obtain rfl : q = m := by omega
          have HI2 := Lib.hid (show AfInv (incIx ctxs) cn i out' more by
            have h1 := hr.2
            rw [keys_len] at h1
            rw [List.drop_of_length_le (by omega), List.nil_append] at hinv
            exact hinv)
          clear hS0 ho hd hr hne hinv hob hpb
          go_wp2_with fail
          go_roundw
          case rel => exact ⟨out', more, A', n', c', D, m2, d2, rfl, rfl, HSW.out, HO.out, HD.out.recs.lower (Nat.zero_le _), HNE.out.2.2, HI2.out, by omega⟩
          case measure => show (50 - n') * 2 + min m2 1 < (50 - n) * 2 + min q 1; omega
    · obtain rfl : m = 0 := by omega
      have HE := Lib.hid (show ∀ x, x ∈ out ↔ Path (incIx ctxs) i x from by
        have h1 := HR.out.2
        rw [keys_len] at h1
        have h2 : nx = [] := List.eq_nil_of_length_eq_zero h1
        have h3 := HI.out
        rw [h2] at h3
        exact h3.end_)
      go_wp2_with fail
      go_ret
      exact ⟨A, n, c, out, rfl, HO.out, HE.out, hn50, HSW.out.1⟩
end
end Go.Proofs.YtpjheibkacbbcaaGreatDoor
/- Words for the generators of plans: slices of contexts that a call makes, with their rules and includes. Conditions: none. -/
namespace Go.Proofs.YtpjheibkacbbcaaGreatDoor
section
open Go.RowKit

theorem Tryz.rusT : ElemT Tryz.prog 104 109 6 80 (.agg #[.string ⟨#[]⟩, .int .i64 0, .string ⟨#[]⟩, .int .i64 0, .string ⟨#[]⟩, .string ⟨#[]⟩]) := elemT_of Tryz.underlying104 (by kernel_rfl) rfl (by decide)
def CxBd (c : CxV) : Prop := (c.key.size ≤ 1000000 ∧ c.rn ≤ 1000000 ∧ c.en ≤ 1000000) ∧ (∀ r ∈ c.rules, RuOk r) ∧ ∀ s ∈ c.incs, s.size ≤ 1000000
def CxOwn (w : World) (lo : Nat) (c : CxV) : Prop := CxBd c ∧ OwnR RuV.row 6 w lo 109 c.rA c.rn c.rc c.rules ∧ OwnR srow 1 w lo 9 c.iA c.en c.ic c.incs
def RuApart (a b : CxV) : Prop := ∀ g, blkOf a.rA = some g → blkOf b.rA ≠ some g
def GCx (w : World) (lo : Nat) (A : Option Addr) (n c : Nat) (l : List CxV) : Prop :=
  OwnR CxV.row 3 w lo 106 A n c l ∧ (∀ a ∈ l, CxOwn w lo a) ∧ ∀ (i j : Nat) (a b : CxV), i ≠ j → l[i]? = some a → l[j]? = some b → RuApart a b
section
variable {w w' : World} {lo n c : Nat} {A : Option Addr} {l : List CxV}
theorem CxOwn.ok {a : CxV} (h : CxOwn w lo a) : CxOk w lo a := ⟨h.1.1.1, h.1.1.2.1, h.1.1.2.2, h.2.1.recs, h.2.2.recs, h.1.2.1, h.1.2.2⟩
theorem GCx.recs (h : GCx w lo A n c l) : Recs CxV.row 3 w lo A n c l := h.1.recs
theorem GCx.nil (w : World) (lo : Nat) : GCx w lo none 0 0 [] := ⟨OwnR.nil _ _ _, (fun a ha => by cases ha), fun i j a b _ h => by simp at h⟩
theorem CxOwn.kept {a : CxV} (h : CxOwn w lo a) {r : Option Nat} (hg : w.grownBy w' r) (h1 : ∀ g, r = some g → blkOf a.rA ≠ some g) (h2 : ∀ g, r = some g → blkOf a.iA ≠ some g) : CxOwn w' lo a := ⟨h.1, h.2.1.kept hg h1, h.2.2.kept hg h2⟩
theorem CxOwn.low {a : CxV} (h : CxOwn w lo a) {r : Option Nat} (hg : w.grownBy w' r) (hr : ∀ g, r = some g → g < lo) : CxOwn w' lo a := ⟨h.1, h.2.1.low hg hr, h.2.2.low hg hr⟩
theorem CxOwn.lower {a : CxV} {lo' : Nat} (h : CxOwn w lo a) (hl : lo' ≤ lo) : CxOwn w lo' a := ⟨h.1, h.2.1.lower hl, h.2.2.lower hl⟩
theorem GCx.low (h : GCx w lo A n c l) {r : Option Nat} (hg : w.grownBy w' r) (hr : ∀ g, r = some g → g < lo) : GCx w' lo A n c l := ⟨h.1.low hg hr, fun a ha => (h.2.1 a ha).low hg hr, h.2.2⟩
/-- Another slice of contexts is changed: rules and includes stay. -/
theorem CxOwn.other {a : CxV} (h : CxOwn w lo a) {lo' n' c' k' : Nat} {A' : Option Addr} {xs : List Value} (ho : Own w lo' 106 k' A' n' c' xs) (hg : w.grownBy w' (blkOf A')) : CxOwn w' lo a :=
  h.kept hg (fun g e => Own.ne ho h.2.1.1 (by decide) e) (fun g e => Own.ne ho h.2.2.1 (by decide) e)
/-- A context is appended whose rules lie behind those of the others. -/
theorem GCx.app {a : CxV} {hi : Nat} (h : GCx w lo A n c l) (ha : CxOwn w lo a) (har : ∀ g, blkOf a.rA = some g → hi ≤ g) (hb : ∀ b ∈ l, ∀ g, blkOf b.rA = some g → g < hi) {A1 : Option Addr} {c1 n1 : Nat} (hn : n1 = n + 1)
    (h1 : Appended w lo 106 3 A A1 n1 c1 (l.flatMap CxV.row ++ a.row) w') : GCx w' lo A1 n1 c1 (l ++ [a]) := by
  have ap : ∀ b ∈ l, RuApart a b ∧ RuApart b a := fun b hb1 => ⟨fun g e e' => by have := hb b hb1 g e'; have := har g e; omega, fun g e e' => by have := hb b hb1 g e; have := har g e'; omega⟩
  refine ⟨h.1.app hn h1, fun b hb1 => ?_, fun i j x y hne hx hy => ?_⟩
  · rcases List.mem_append.1 hb1 with hb1 | hb1
    · exact (h.2.1 b hb1).other h.1.1 h1.2.1
    · rw [List.mem_singleton.1 hb1]; exact ha.other h.1.1 h1.2.1
  · rw [List.getElem?_append] at hx hy
    split at hx <;> split at hy
    · exact h.2.2 i j x y hne hx hy
    · rename_i q1 q2
      have : y = a := by
        cases hj : j - l.length with
        | zero => rw [hj] at hy; simpa using hy.symm
        | succ q => rw [hj] at hy; simp at hy
      subst this
      exact (ap x (mem_of_get hx)).2
    · rename_i q1 q2
      have : x = a := by
        cases hj : i - l.length with
        | zero => rw [hj] at hx; simpa using hx.symm
        | succ q => rw [hj] at hx; simp at hx
      subst this
      exact (ap y (mem_of_get hy)).1
    · exfalso
      rename_i q1 q2
      have h3 : i - l.length = 0 := by
        cases hj : i - l.length with
        | zero => rfl
        | succ q => rw [hj] at hx; simp at hx
      have h4 : j - l.length = 0 := by
        cases hj : j - l.length with
        | zero => rfl
        | succ q => rw [hj] at hy; simp at hy
      omega
/-- One cell of a context is stored anew; the others' slices have stayed. -/
theorem GCx.put {g i j p : Nat} {a a' : CxV} {u : Value} (hc : OwnR CxV.row 3 w lo 106 (some ⟨g, 0, none⟩) n c l) (hi : l[i]? = some a) (hj : j < 3) (hr : a'.row = a.row.set j u) (hp : p = i * 3 + j)
    (ho : ∀ (k : Nat) (b : CxV), k ≠ i → l[k]? = some b → CxOwn w lo b) (ha : CxOwn w lo a') (hap : ∀ (k : Nat) (b : CxV), k ≠ i → l[k]? = some b → RuApart a' b ∧ RuApart b a') (hab : ∀ (i j : Nat) (a b : CxV), i ≠ j → l[i]? = some a → l[j]? = some b → RuApart a b) :
    GCx (w.setCell ⟨g, p, none⟩ u) lo (some ⟨g, 0, none⟩) n c (l.set i a') := by
  have hg : w.grownBy (w.setCell ⟨g, p, none⟩ u) (blkOf (some ⟨g, 0, none⟩)) := gr_setCell (gr_refl _ _) (.inl rfl) _
  have hil := (List.getElem?_eq_some_iff.1 hi).1
  refine ⟨hc.set1 CxV.row_len hi hj hr hp, fun x hx => ?_, fun i1 j1 x y hne hx hy => ?_⟩
  · rcases mem_setH hx with rfl | ⟨q, hq, hx⟩
    · exact ha.other hc.1 hg
    · exact (ho q x hq hx).other hc.1 hg
  · rw [List.getElem?_set] at hx hy
    by_cases e1 : i = i1
    · rw [if_pos e1, if_pos (by omega)] at hx
      injection hx with hx
      subst hx
      rw [if_neg (by omega)] at hy
      exact (hap j1 y (by omega) hy).1
    · rw [if_neg e1] at hx
      by_cases e2 : i = j1
      · rw [if_pos e2, if_pos (by omega)] at hy
        injection hy with hy
        subst hy
        exact (hap i1 x (by omega) hx).2
      · rw [if_neg e2] at hy
        exact hab i1 j1 x y hne hx hy
end
/-- What a generator of plans answers. -/
def IsPlan (lo : Nat) (v : Value) (w : World) : Prop := ∃ p : PlV, v = .agg #[.slice p.cA p.cn p.cc, .slice p.hA p.hn p.hc] ∧ PlOk w lo p ∧ p.cn ≤ 3 ∧ p.hn ≤ 2
def IsGPl (lo most : Nat) (v : Value) (w : World) : Prop := ∃ (A B : Option Addr) (c d : Nat) (l : List CxV) (hs : List HrV), v = .agg #[.slice A 3 c, .slice B 2 d] ∧ GCx w lo A 3 c l ∧ GHrs w lo B 2 d hs ∧ ∀ a ∈ l, a.rn ≤ most ∧ a.en ≤ 2
/-- A rule that a generator makes. -/
def RuBd (r : RuV) : Prop := r.pat.size ≤ 1000 ∧ r.pre.size ≤ 1000 ∧ r.nam.size ≤ 1000 ∧ r.hrs.size ≤ 1000
theorem RuBd.ok {r : RuV} (h : RuBd r) : RuOk r := ⟨by have := h.1; omega, by have := h.2.1; omega, by have := h.2.2.1; omega, by have := h.2.2.2; omega⟩
def IsRu (v : Value) (_ : World) : Prop := ∃ r : RuV, v = .agg #[.string r.pat, .int .i64 r.strip, .string r.pre, .int .i64 r.to_, .string r.nam, .string r.hrs] ∧ RuBd r
end
end Go.Proofs.YtpjheibkacbbcaaGreatDoor
/- More words for the generators of plans: a context under way, its includes, its rules. Conditions: none. -/
namespace Go.Proofs.YtpjheibkacbbcaaGreatDoor
section
open Go.RowKit

theorem blkNP (w : World) (t : TypeId) (cs : Array Value) {g : Nat} (hg : w.heap.size = g) : Blk (w.alloc (.cells cs t)) g t cs := by subst hg; exact Blk.new _ _ _
theorem GHrs.lower {w : World} {lo lo' n c : Nat} {A : Option Addr} {l : List HrV} (h : GHrs w lo A n c l) (hl : lo' ≤ lo) : GHrs w lo' A n c l := ⟨h.1.lower hl, fun a ha => (h.2.1 a ha).lower hl, h.2.2⟩
theorem GHrs.other {w w' : World} {lo n c : Nat} {A : Option Addr} {l : List HrV} (h : GHrs w lo A n c l) {lo' n' c' k' : Nat} {e' : TypeId} {A' : Option Addr} {xs : List Value} (ho : Own w lo' e' k' A' n' c' xs) (h1 : e' ≠ 157) (h2 : e' ≠ 159) (h3 : e' ≠ 161) (hg : w.grownBy w' (blkOf A')) : GHrs w' lo A n c l :=
  ⟨h.1.kept hg (fun _ e => Own.ne ho h.1.1 h1 e), fun a ha => (h.2.1 a ha).kept hg (fun _ e => Own.ne ho (h.2.1 a ha).2.1.1 h2 e) (fun _ e => Own.ne ho (h.2.1 a ha).2.2.1 h3 e), h.2.2⟩
theorem GCx.lower {w : World} {lo lo' n c : Nat} {A : Option Addr} {l : List CxV} (h : GCx w lo A n c l) (hl : lo' ≤ lo) : GCx w lo' A n c l := ⟨h.1.lower hl, fun a ha => (h.2.1 a ha).lower hl, h.2.2⟩
/-- A context under way: its block, its rules. -/
def CxB (w : World) (sb cb : Nat) (m : Int) (a : CxV) (wr : World) : Prop :=
  Str wr sb m ∧ w.grownBy wr (some sb) ∧ w.heap.size ≤ cb ∧ Blk wr cb 106 #[.string a.key, .slice a.rA a.rn a.rc, .slice a.iA a.en a.ic] ∧ CxOwn wr w.heap.size a
section
variable {w wr wx w8 : World} {sb cb : Nat} {m m' : Int} {a : CxV}
theorem CxB.rule1 (h : CxB w sb cb m a wr) (hsb : sb < w.heap.size) {r : RuV} (hr : RuOk r) {n1 : Nat} (hn : n1 = a.rn + 1) (hb : n1 ≤ 1000000) (hsx : Str wx sb m') (hgx : wr.grownBy wx (some sb)) {A1 : Option Addr} {c1 : Nat}
    (h8 : Appended wx w.heap.size 109 6 a.rA A1 n1 c1 (a.rules.flatMap RuV.row ++ r.row) w8) :
    CxB w sb cb m' { a with rA := A1, rn := n1, rc := c1, rules := a.rules ++ [r] } (w8.setCell ⟨cb, 1, none⟩ (.slice A1 n1 c1)) := by
  obtain ⟨_, hg, hp, hbk, ho⟩ := h
  have hox : CxOwn wx w.heap.size a := ho.low hgx (fun g e => by injection e with e; omega)
  have hbx := hbk.grown hgx (by simp; omega)
  have hb8 := hbx.grown h8.2.1 (Ne.symm (hox.2.1.1.blk_ne hbx (by decide)))
  have hg8 : w.grownBy w8 (some sb) := gr_own (gr_same hg hgx) hox.2.1.1 (Nat.le_refl _) h8.2.1
  have hz := hg8.size
  have hs8 : Str w8 sb m' := hsx.grown h8.2.1 (fun g e => by have := (hox.2.1.1.lt e).1; omega)
  refine ⟨hs8.setCell (by simp; omega) _, gr_setCell hg8 (.inr (by simp; omega)) _, hp, hb8.set_ 1 _, ⟨⟨hox.1.1.1, hb, hox.1.1.2.2⟩, fun x hx => ?_, hox.1.2.2⟩, ?_, ?_⟩
  · rcases List.mem_append.1 hx with hx | hx
    · exact hox.1.2.1 x hx
    · rw [List.mem_singleton.1 hx]; exact hr
  · have h9 := hox.2.1.app hn h8
    exact ⟨h9.1.far (h9.1.blk_ne hb8 (by decide)) _, h9.2⟩
  · have h9 := hox.2.2.kept h8.2.1 (fun g' e => Own.ne hox.2.1.1 hox.2.2.1 (by decide) e)
    exact ⟨h9.1.far (h9.1.blk_ne hb8 (by decide)) _, h9.2⟩
theorem CxB.step (h : CxB w sb cb m a wr) (hsb : sb < w.heap.size) (hsx : Str wx sb m') (hgx : wr.grownBy wx (some sb)) : CxB w sb cb m' a wx :=
  ⟨hsx, gr_same h.2.1 hgx, h.2.2.1, h.2.2.2.1.grown hgx (by have := h.2.2.1; simp; omega), h.2.2.2.2.low hgx (fun g e => by injection e with e; omega)⟩
end
section
variable {w w' : World} {lo n c g i p : Nat} {l : List CxV} {a : CxV}
/-- The includes of a context are stored anew. -/
theorem GCx.inc (h : GCx w lo (some ⟨g, 0, none⟩) n c l) (hi : l[i]? = some a) {iA : Option Addr} {en ic : Nat} {ins : List ByteArray} (ho : OwnR srow 1 w lo 9 iA en ic ins) (hen : en ≤ 1000000) (hs : ∀ s ∈ ins, s.size ≤ 1000000) (hp : p = i * 3 + 2) :
    GCx (w.setCell ⟨g, p, none⟩ (.slice iA en ic)) lo (some ⟨g, 0, none⟩) n c (l.set i { a with iA := iA, en := en, ic := ic, incs := ins }) := by
  have h1 := h.2.1 a (mem_of_get hi)
  refine GCx.put h.1 hi (j := 2) (by omega) rfl hp (fun k b _ hk => h.2.1 b (mem_of_get hk)) ⟨⟨⟨h1.1.1.1, h1.1.1.2.1, hen⟩, h1.1.2.1, hs⟩, h1.2.1, ho⟩ (fun k b hk hb => ?_) h.2.2
  exact ⟨h.2.2 i k a b (by omega) hi hb, h.2.2 k i b a hk hb hi⟩
/-- The key of a context is stored anew. -/
theorem GCx.key (h : GCx w lo (some ⟨g, 0, none⟩) n c l) (hi : l[i]? = some a) {s : ByteArray} (hs : s.size ≤ 1000000) (hp : p = i * 3) : GCx (w.setCell ⟨g, p, none⟩ (.string s)) lo (some ⟨g, 0, none⟩) n c (l.set i { a with key := s }) := by
  have h1 := h.2.1 a (mem_of_get hi)
  refine GCx.put h.1 hi (j := 0) (by omega) rfl hp (fun k b _ hk => h.2.1 b (mem_of_get hk)) ⟨⟨⟨hs, h1.1.1.2⟩, h1.1.2⟩, h1.2⟩ (fun k b hk hb => ?_) h.2.2
  exact ⟨h.2.2 i k a b (by omega) hi hb, h.2.2 k i b a hk hb hi⟩
/-- A rule is appended to a context's own rules, and they are stored. -/
theorem GCx.rul (h : GCx w lo (some ⟨g, 0, none⟩) n c l) (hi : l[i]? = some a) {r : RuV} (hr : RuOk r) {n1 c1 : Nat} {A1 : Option Addr} (hn : n1 = a.rn + 1) (hb : n1 ≤ 1000000)
    (h8 : Appended w lo 109 6 a.rA A1 n1 c1 (a.rules.flatMap RuV.row ++ r.row) w') (hp : p = i * 3 + 1) :
    GCx (w'.setCell ⟨g, p, none⟩ (.slice A1 n1 c1)) lo (some ⟨g, 0, none⟩) n c (l.set i { a with rA := A1, rn := n1, rc := c1, rules := a.rules ++ [r] }) := by
  have h1 := h.2.1 a (mem_of_get hi)
  have hoth : ∀ (k : Nat) (b : CxV), k ≠ i → l[k]? = some b → CxOwn w' lo b := fun k b hk hb =>
    (h.2.1 b (mem_of_get hb)).kept h8.2.1 (fun q e => h.2.2 i k a b (by omega) hi hb q e) (fun q e => Own.ne h1.2.1.1 (h.2.1 b (mem_of_get hb)).2.2.1 (by decide) e)
  refine GCx.put (h.1.kept h8.2.1 (fun q e => Own.ne h1.2.1.1 h.1.1 (by decide) e)) hi (j := 1) (by omega) rfl hp hoth ⟨⟨⟨h1.1.1.1, hb, h1.1.1.2.2⟩, fun x hx => ?_, h1.1.2.2⟩, h1.2.1.app hn h8, h1.2.2.kept h8.2.1 (fun q e => Own.ne h1.2.1.1 h1.2.2.1 (by decide) e)⟩ (fun k b hk hb => ?_) h.2.2
  · rcases List.mem_append.1 hx with hx | hx
    · exact h1.1.2.1 x hx
    · rw [List.mem_singleton.1 hx]; exact hr
  · have q1 := h.2.2 i k a b (by omega) hi hb
    have hbl : ∀ q, blkOf b.rA = some q → q < w.heap.size := fun q e => ((h.2.1 b (mem_of_get hb)).2.1.1.lt e).2
    exact ⟨fun q e e' => by
      rcases h8.2.2 q e with e2 | e2
      · exact q1 q e2 e'
      · have := hbl q e'; omega, fun q e e' => by
      rcases h8.2.2 q e' with e2 | e2
      · exact q1 q e2 e
      · have := hbl q e; omega⟩
end
/-- The rules of a context are stored anew: a slice of its own. -/
theorem GCx.rulN {w : World} {lo n c g i p : Nat} {l : List CxV} {a : CxV} (h : GCx w lo (some ⟨g, 0, none⟩) n c l) (hi : l[i]? = some a) {n1 c1 : Nat} {A1 : Option Addr} {rs : List RuV} (ho : OwnR RuV.row 6 w lo 109 A1 n1 c1 rs) (hb : n1 ≤ 1000000) (hr : ∀ r ∈ rs, RuOk r)
    (hf : ∀ q, blkOf A1 = some q → ∀ b ∈ l, blkOf b.rA ≠ some q) (hp : p = i * 3 + 1) : GCx (w.setCell ⟨g, p, none⟩ (.slice A1 n1 c1)) lo (some ⟨g, 0, none⟩) n c (l.set i { a with rA := A1, rn := n1, rc := c1, rules := rs }) := by
  have h1 := h.2.1 a (mem_of_get hi)
  refine GCx.put h.1 hi (j := 1) (by omega) rfl hp (fun k b _ hk => h.2.1 b (mem_of_get hk)) ⟨⟨⟨h1.1.1.1, hb, h1.1.1.2.2⟩, hr, h1.1.2.2⟩, ho, h1.2.2⟩ (fun k b hk hb => ?_) h.2.2
  exact ⟨fun q e e' => hf q e b (mem_of_get hb) e', fun q e e' => hf q e' b (mem_of_get hb) e⟩
/-- A cell of another kind of block is stored. -/
theorem GCx.far {w : World} {lo n c q : Nat} {A : Option Addr} {l : List CxV} (h : GCx w lo A n c l) {t : TypeId} {cs : Array Value} (hb : Blk w q t cs) (h1 : 106 ≠ t) (h2 : 109 ≠ t) (h3 : 9 ≠ t) (j : Nat) (u : Value) : GCx (w.setCell ⟨q, j, none⟩ u) lo A n c l := by
  have hg : w.grownBy (w.setCell ⟨q, j, none⟩ u) (some q) := gr_setCell (gr_refl _ _) (.inl rfl) _
  exact ⟨h.1.kept hg (fun g e => by injection e with e; subst e; exact h.1.1.blk_ne hb h1), fun a ha => (h.2.1 a ha).kept hg (fun g e => by injection e with e; subst e; exact (h.2.1 a ha).2.1.1.blk_ne hb h2) (fun g e => by injection e with e; subst e; exact (h.2.1 a ha).2.2.1.blk_ne hb h3), h.2.2⟩
theorem Hrs.lowerP {w : World} {lo lo' n c : Nat} {A : Option Addr} {l : List HrV} (h : Hrs w lo A n c l) (hl : lo' ≤ lo) : Hrs w lo' A n c l := ⟨h.1.lower hl, fun a ha => ⟨(h.2 a ha).1, (h.2 a ha).2.1.lower hl, (h.2 a ha).2.2.lower hl⟩⟩
theorem cxCell1 {w : World} {lo n c g i : Nat} {l : List CxV} {a : CxV} (h : OwnR CxV.row 3 w lo 106 (some ⟨g, 0, none⟩) n c l) (hi : l[i]? = some a) : w.cell? ⟨g, i * 3 + 1, none⟩ = some (.slice a.rA a.rn a.rc) := by
  have h := h.recs.at_ CxV.row_len hi 1 _ rfl
  simpa using h
theorem cxCell2 {w : World} {lo n c g i : Nat} {l : List CxV} {a : CxV} (h : OwnR CxV.row 3 w lo 106 (some ⟨g, 0, none⟩) n c l) (hi : l[i]? = some a) : w.cell? ⟨g, i * 3 + 2, none⟩ = some (.slice a.iA a.en a.ic) := by
  have h := h.recs.at_ CxV.row_len hi 2 _ rfl
  simpa using h
theorem exec_load_all {P : Program} {w : World} {ty : TypeId} {n : Nat} (T : StructT P ty n) (x : Operand) {o : Oper} (ho : o.op = .load ty x) {ev : Operand → Value} {g : Nat} {t : TypeId} {cs : Array Value} (hx : ev x = .pointer (some ⟨g, 0, none⟩)) (hb : Blk w g t cs) (hn : cs.size = n) :
    (execOp ev o).run P w = .ok (.value (.agg cs)) w := by
  obtain ⟨d, h1, h2, h3⟩ := T
  unfold execOp
  simp only [ho, hx, Instr.loadAt, Instr.sureAddr, Sem.run_bind, Sem.run_pure, Result.andThen_ok, run_loadVar_row w g t ty cs (0, 0) d hb h1 (by cases d <;> first | rfl | (cases h2)) (by rw [hn]; exact h3)]
/-! Lists of includes that a call makes. -/
def InS (lo k : Nat) (v : Value) (w : World) : Prop := ∃ g ins, v = .slice (some ⟨g, 0, none⟩) k k ∧ OwnR srow 1 w lo 9 (some ⟨g, 0, none⟩) k k ins ∧ ∀ s ∈ ins, s.size ≤ 1000
theorem InS.grown {sb lo k : Nat} (hsb : sb < lo) {v : Value} {w w' : World} (h : InS lo k v w) (hg : w.grownBy w' (some sb)) : InS lo k v w' := by
  obtain ⟨g, ins, h1, h2, h3⟩ := h
  exact ⟨g, ins, h1, h2.low hg (fun g e => by injection e with e; omega), h3⟩
theorem InS.new (w : World) {lo : Nat} (hlo : lo ≤ w.heap.size) {k : Nat} (l : List ByteArray) (hk : l.length = k) (hm : k ≤ 1000) (hl : ∀ s ∈ l, s.size ≤ 1000) : InS lo k (.slice (some ⟨w.heap.size, 0, none⟩) k k) (w.alloc (.cells (l.flatMap srow).toArray 9)) := by
  subst hk
  have hs : l.length = (l.flatMap srow).length := by rw [flat_len (row := srow) (k := 1) (fun _ => rfl)]; omega
  have h := (Own.lit w 9 1 (l.flatMap srow) l.length (by unfold maxLen; omega) (by omega)).lower hlo
  exact ⟨_, l, rfl, ⟨h, rfl⟩, hl⟩
/-- One of a list of lists of includes. -/
def InC (w : World) (lo : Nat) (v : Value) : Prop := ∃ (iA : Option Addr) (en ic : Nat) (ins : List ByteArray), v = .slice iA en ic ∧ OwnR srow 1 w lo 9 iA en ic ins ∧ (∀ s ∈ ins, s.size ≤ 1000) ∧ en ≤ 2
theorem InC.nil (w : World) (lo : Nat) : InC w lo (.slice none 0 0) := ⟨none, 0, 0, [], rfl, OwnR.nil _ _ _, (fun s hs => by cases hs), by omega⟩
theorem InC.of {w : World} {lo k : Nat} {v : Value} (h : InS lo k v w) (hk : k ≤ 2) : InC w lo v := by
  obtain ⟨g, ins, h1, h2, h3⟩ := h
  exact ⟨_, k, k, ins, h1, h2, h3, hk⟩
theorem InC.low {w w' : World} {lo : Nat} {v : Value} (h : InC w lo v) {r : Option Nat} (hg : w.grownBy w' r) (hr : ∀ g, r = some g → g < lo) : InC w' lo v := by
  obtain ⟨iA, en, ic, ins, h1, h2, h3, h4⟩ := h
  exact ⟨iA, en, ic, ins, h1, h2.low hg hr, h3, h4⟩
def InL (lo k : Nat) (v : Value) (w : World) : Prop := ∃ g cs, v = .slice (some ⟨g, 0, none⟩) k k ∧ lo ≤ g ∧ Blk w g 27 cs ∧ ∀ r : Nat, r < k → ∃ x, cs[r]? = some x ∧ InC w lo x
theorem InL.grown {sb lo k : Nat} (hsb : sb < lo) {v : Value} {w w' : World} (h : InL lo k v w) (hg : w.grownBy w' (some sb)) : InL lo k v w' := by
  obtain ⟨g, cs, h1, h0, h2, h3⟩ := h
  refine ⟨g, cs, h1, h0, h2.grown hg (by simp; omega), fun r hr => ?_⟩
  obtain ⟨x, hx, hc⟩ := h3 r hr
  exact ⟨x, hx, hc.low hg (fun g e => by injection e with e; omega)⟩
/-- A place in a list of lists. -/
def InPt (lo : Nat) (v : Value) (w : World) : Prop := ∃ g cs r x, v = .pointer (some ⟨g, r, none⟩) ∧ lo ≤ g ∧ Blk w g 27 cs ∧ cs[r]? = some x ∧ InC w lo x
theorem InPt.grown {sb lo : Nat} (hsb : sb < lo) {v : Value} {w w' : World} (h : InPt lo v w) (hg : w.grownBy w' (some sb)) : InPt lo v w' := by
  obtain ⟨g, cs, r, x, h1, h0, h2, h3, h4⟩ := h
  exact ⟨g, cs, r, x, h1, h0, h2.grown hg (by simp; omega), h3, h4.low hg (fun g e => by injection e with e; omega)⟩
def InCV (lo : Nat) (v : Value) (w : World) : Prop := InC w lo v
def PtV (g i : Nat) (v : Value) (_ : World) : Prop := v = .pointer (some ⟨g, i, none⟩)
def NatV (k : Nat) (v : Value) (_ : World) : Prop := ∃ r : Nat, r < k ∧ v = .int .i64 r
end
end Go.Proofs.YtpjheibkacbbcaaGreatDoor
/- Contracts of slices.Index and slices.Contains at ints, and of dialplan's order, open and Order. Conditions: none. -/
namespace Go.Proofs.YtpjheibkacbbcaaGreatDoor
section
open Go.RowKit


def ixI (l : List Nat) : List Int := l.map (fun x : Nat => (x : Int))
structure OrderV (S : Nat → List Nat) (L n0 : Nat) (A : Option Addr) (i : Nat) (out : List Nat) (w : World) (e : Ending) (w' : World) (A' : Option Addr) (n' c' : Nat) (r : List Nat) : Prop where
  e : e = .returned (.slice A' n' c')
  own : OwnR nrow 1 w' L 3 A' n' c' (ixI r)
  gr : w.grownBy w' (blkOf A)
  new : ∀ g, blkOf A' = some g → blkOf A = some g ∨ w.heap.size ≤ g
  ord : Ord S [i] out r
  nd : r.Nodup
  bd : ∀ x ∈ r, x < n0
structure OrdIn (S : Nat → List Nat) (w0 w : World) (L n0 pb : Nat) (A : Option Addr) (is out : List Nat) (wr : World) (A' : Option Addr) (n' c' : Nat) (cur : List Nat) : Prop where
  g0 : w0.grownBy wr none
  own : OwnR nrow 1 wr L 3 A' n' c' (ixI cur)
  gr : w.grownBy wr (blkOf A)
  new : ∀ g, blkOf A' = some g → blkOf A = some g ∨ w.heap.size ≤ g
  ord : Ord S is out cur
  nd : cur.Nodup
  bd : ∀ x ∈ cur, x < n0
  len : out.length ≤ cur.length
end
end Go.Proofs.YtpjheibkacbbcaaGreatDoor
/- Contracts of dialplan's open and Order. Conditions: none. -/
namespace Go.Proofs.YtpjheibkacbbcaaGreatDoor
section
open Go.RowKit

theorem Tryz.cxsT : ElemT Tryz.prog 45 106 3 64 (.agg #[.string ⟨#[]⟩, .slice none 0 0, .slice none 0 0]) := elemT_of Tryz.underlying45 (by kernel_rfl) rfl (by decide)
/-- The order from a context on. -/
structure OrdOk (p : PlV) (key : ByteArray) (r : List Nat) : Prop where
  at_ : ∃ (i : Nat) (z : CxV), p.ctxs[i]? = some z ∧ nb z.key = nb key ∧ cxIx p.ctxs key = i ∧ Ord (incIx p.ctxs) [i] [] r
  nd : r.Nodup
  bd : ∀ x ∈ r, x < p.ctxs.length
end
end Go.Proofs.YtpjheibkacbbcaaGreatDoor
/- Contracts of counts of dialplan and of the document, and of dialplan's decides. Conditions: a plan that is right. -/
namespace Go.Proofs.YtpjheibkacbbcaaGreatDoor
section
open Go.RowKit

set_option maxHeartbeats 2000000 in
theorem hrC_any (c : HrV) (key : ByteArray) (kb : Nat) (w : World) (hk : Blk w kb 9 #[.string key]) :
    Calls Tryz.prog 199 #[.agg #[.string c.key, .int .i64 c.zone, .slice c.rA c.rn c.rc, .slice c.hA c.hn c.hc], .pointer (some ⟨kb, 0, none⟩)] w (RetV (.bool (nb c.key == nb key)) w) := by
  have kk := (hk.alloc (.cells #[.string c.key, .int .i64 c.zone, .slice c.rA c.rn c.rc, .slice c.hA c.hn c.hc] 157)).cell 0
  have hlt1 := hk.lt
  obtain ⟨E, hE⟩ : ∃ E, (c.key.toList == key.toList) = E := ⟨_, rfl⟩
  have HV := Lib.hid (show (nb c.key == nb key) = E by rw [← eqS_nb, hE])
  clear hk
  cases E
  all_goals
    go_enter Tryz.func199, Tryz.ntmps199
    go_wp2_with fail
    go_ret
    exact ⟨by rw [HV.out]; try rfl, gr_alloc (gr_refl _ _) _⟩
set_option maxHeartbeats 4000000 in
theorem hrCIdx_any (lo : Nat) (A : Option Addr) (n c : Nat) (l : List HrV) (key : ByteArray) (kb : Nat) (w : World) (h : Recs HrV.row 4 w lo A n c l) (hn : n ≤ 1000000000000) (h_k : Blk w kb 9 #[.string key]) :
    Calls Tryz.prog 175 #[.slice A n c, .func (.func 199) #[] #[.pointer (some ⟨kb, 0, none⟩)]] w (RetV (.int .i64 (idxP (fun x : HrV => nb x.key == nb key) l)) w) := by
  have H := Lib.hid h; have Hk := Lib.hid h_k; clear h h_k
  go_enter Tryz.func175, Tryz.ntmps175
  go_wp2_with fail
  go_loopw [5, 8] (fun _ t' wr => ∃ i : Nat, i ≤ n ∧ t' = .int .i64 i ∧ w.grownBy wr none ∧ (l.take i).all (fun x => !((fun x : HrV => nb x.key == nb key) x)) = true) (fun _ t' _ => n - (intOf t').toNat)
  case atStart => exact ⟨0, Nat.zero_le _, rfl, gr_refl _ _, by simp⟩
  case round =>
    obtain ⟨i, hi, rfl, hg, ha⟩ := hrel
    have HA := Lib.hid ha; have HG := Lib.hid hg; clear ha hg
    by_cases hlt : i < n
    · obtain ⟨g, o, b, rfl, _, hgl, hz, hc⟩ := (H.out.grown HG.out (fun g e => by cases e)).get HrV.row_len hlt
      have HZ := Lib.hid hz; have HC := Lib.hid hc; clear hz hc
      obtain ⟨B, hB⟩ : ∃ B, (fun x : HrV => nb x.key == nb key) b = B := ⟨_, rfl⟩
      have HE := Lib.hid hB; clear hB
      cases B
      all_goals
        go_wp2_with (first
          | (refine wpl_load_at Tryz.hrT rfl _ rfl _ rfl [.string b.key, .int .i64 b.zone, .slice b.rA b.rn b.rc, .slice b.hA b.hn b.hc] rfl (fun j u hu => by rw [add_mk]; exact HC.out j u hu) ?_)
          | (go_at_call 199; refine (hrC_any b key kb _ (Hk.out.grown HG.out (by simp))).mono ?_; rintro e w2 ⟨rfl, hg2⟩; have he := HE.out; (try dsimp only at he); rw [he]; clear he; have HG2 := Lib.hid (gr_none HG.out hg2); clear hg2)
          | fail)
      · go_roundw
        case rel => exact ⟨i + 1, by omega, by go_num, HG2.out, allP_succ (p := (fun x : HrV => nb x.key == nb key)) HA.out HZ.out HE.out⟩
        case measure => simp [intOf]; omega
      · go_ret
        exact ⟨by rw [idxP_some (p := (fun x : HrV => nb x.key == nb key)) HA.out HZ.out HE.out]; rfl, HG2.out⟩
    · obtain rfl : i = n := by omega
      go_wp2_with fail
      go_ret
      have h := HA.out
      rw [List.take_of_length_le (by rw [H.out.len]; exact Nat.le_refl _)] at h
      exact ⟨by rw [idxP_none (p := (fun x : HrV => nb x.key == nb key)) h]; rfl, HG.out⟩
theorem exec_load_rec {P : Program} {w : World} {o : Oper} {ev : Operand → Value} {ty : TypeId} {n : Nat} (T : StructT P ty n) (x : Operand) (ho : o.op = .load ty x) (a : Addr) (hx : ev x = .pointer (some a)) (cs : List Value) (hb : ∀ (j : Nat) (u : Value), cs[j]? = some u → w.cell? (a.add j) = some u) (hn : cs.length = n) :
    (execOp ev o).run P w = .ok (.value (.agg cs.toArray)) w := by
  unfold execOp
  simp only [ho, hx, Instr.loadAt, Instr.sureAddr, Sem.run_bind, Sem.run_pure, Result.andThen_ok, run_load_at T hn hb]
set_option maxHeartbeats 4000000 in
theorem counts_any (lo : Nat) (p : PlV) (key : ByteArray) (t : Int) (w : World) (h : PlOk w lo p) (hr : ∀ a ∈ p.hours, HrRight a) (hkk : hrsOk p.hours key = true) (t0 : -1 ≤ t) (t1 : t ≤ 345686400000) :
    Calls Tryz.prog 133 #[.agg #[.slice p.cA p.cn p.cc, .slice p.hA p.hn p.hc], .string key, .int .i64 t] w (RetV (.bool (cntB p.hours key t)) w) := by
  obtain ⟨W1, hW⟩ : ∃ W1, (w.alloc (.cells #[.slice p.cA p.cn p.cc, .slice p.hA p.hn p.hc] 48)).alloc (.cells #[.string key] 9) = W1 := ⟨_, rfl⟩
  have HP := Lib.hid (show Blk W1 w.heap.size 48 #[.slice p.cA p.cn p.cc, .slice p.hA p.hn p.hc] by rw [← hW]; exact (Blk.new _ _ _).alloc _)
  have HK := Lib.hid (show Blk W1 (w.heap.size + 1) 9 #[.string key] by rw [← hW]; exact blk_newH _ _ _ (by simp))
  have HG := Lib.hid (show w.grownBy W1 none by rw [← hW]; exact gr_alloc (gr_alloc (gr_refl _ _) _) _)
  have HW := Lib.hid hW; clear hW
  have hhn := h.hn
  by_cases hk : nb key = []
  · have q0 := str_nil hk
    have HV := Lib.hid (show cntB p.hours key t = true by unfold cntB; rw [decide_eq_true hk]; rfl)
    clear h hr hkk hk
    go_enter Tryz.func133, Tryz.ntmps133
    go_upto_region 1 with (fail)
    rw [HW.out]
    have k0 := HK.out.cell 0
    go_wp2_with fail
    go_ret
    exact ⟨by rw [HV.out]; try rfl, HG.out⟩
  · obtain ⟨q1, q2, q3⟩ := str_full hk
    obtain ⟨q, hh, hq, hz, hp, hf⟩ := idx_find (p := fun x : HrV => nb x.key == nb key) (l := p.hours) (by
      have h := hkk
      unfold hrsOk at h
      rw [decide_eq_false hk, Bool.false_or] at h
      exact h)
    have HQ := Lib.hid hq
    have HV := Lib.hid (show cntB p.hours key t = openAt hh.zone hh.rows hh.hol t by unfold cntB; rw [decide_eq_false hk, Bool.false_or, hf]; rfl)
    have HHO := Lib.hid (h.hours.2 hh (mem_of_get hz))
    have HHR := Lib.hid (hr hh (mem_of_get hz))
    have hqn : q < p.hn := by rw [← h.hours.1.len]; exact (List.getElem?_eq_some_iff.1 hz).1
    have hqn2 : (q : Int) < (p.hn : Int) := by omega
    obtain ⟨g, o, h2, hhA, _, hgl, hz2, hcc⟩ := h.hours.1.get HrV.row_len hqn
    obtain rfl : hh = h2 := by rw [hz] at hz2; injection hz2
    have HA := Lib.hid hhA
    have HZ := Lib.hid hz
    obtain ⟨V, hV⟩ : ∃ V, openAt hh.zone hh.rows hh.hol t = V := ⟨_, rfl⟩
    have HVV := Lib.hid hV
    clear hkk hq hp hf hz hz2 hcc hhA hr hgl hV
    have H0 := Lib.hid h
    clear h hk
    go_enter Tryz.func133, Tryz.ntmps133
    go_upto_region 1 with (fail)
    rw [HW.out]
    have k0 := HK.out.cell 0
    have k1 := HP.out.cell 1
    go_wp2_with fail
    refine (hrCIdx_any lo p.hA p.hn p.hc p.hours key (w.heap.size + 1) _ (H0.out.hours.1.grown HG.out (fun g e => by cases e)) (by omega) HK.out).mono ?_
    rintro e w2 ⟨rfl, hg2⟩
    rw [show idxP _ _ = _ from HQ.out]
    clear k0 k1
    have HG2 := Lib.hid (gr_none HG.out hg2)
    have k1 := (HP.out.grown hg2 (by simp)).cell 1
    have hA := HA.out
    have HR2 := Lib.hid (H0.out.hours.1.grown HG2.out (fun g e => by cases e))
    clear hg2
    go_wp2_with (first
      | (refine wpl_load_at Tryz.hrT rfl _ rfl _ rfl [.string hh.key, .int .i64 hh.zone, .slice hh.rA hh.rn hh.rc, .slice hh.hA hh.hn hh.hc] rfl (fun j u hu => by
           rw [add_mk]
           have hr2 := HR2.out
           rw [HA.out] at hr2
           exact hr2.at_ HrV.row_len HZ.out j u hu) ?_)
      | fail)
    refine (isOpen_any lo hh t _ (HHO.out.grown HG2.out (fun g e => by cases e)) HHR.out t0 t1).mono ?_
    rintro e w3 ⟨rfl, hg3⟩
    rw [HVV.out]
    have HG3 := Lib.hid (gr_none HG2.out hg3)
    clear hg3
    go_wp2_with fail
    go_ret
    exact ⟨by rw [HV.out, HVV.out]; try rfl, HG3.out⟩
set_option maxHeartbeats 4000000 in
theorem countsR_any (lo : Nat) (p : PlV) (key : ByteArray) (t : Int) (w : World) (h : PlOk w lo p) (hr : ∀ a ∈ p.hours, HrRight a) (hkk : hrsOk p.hours key = true) (t0 : -1 ≤ t) (t1 : t ≤ 345686400000) :
    Calls Tryz.prog 117 #[.agg #[.slice p.cA p.cn p.cc, .slice p.hA p.hn p.hc], .string key, .int .i64 t] w (RetV (.bool (cntB p.hours key t)) w) := by
  obtain ⟨W1, hW⟩ : ∃ W1, w.alloc (.cells #[.slice p.cA p.cn p.cc, .slice p.hA p.hn p.hc] 48) = W1 := ⟨_, rfl⟩
  have HP := Lib.hid (show Blk W1 w.heap.size 48 #[.slice p.cA p.cn p.cc, .slice p.hA p.hn p.hc] by rw [← hW]; exact Blk.new _ _ _)
  have HG := Lib.hid (show w.grownBy W1 none by rw [← hW]; exact gr_alloc (gr_refl _ _) _)
  have HW := Lib.hid hW; clear hW
  have hhn := h.hn
  by_cases hk : nb key = []
  · have q0 := str_nil hk
    have HV := Lib.hid (show cntB p.hours key t = true by unfold cntB; rw [decide_eq_true hk]; rfl)
    clear h hr hkk hk
    go_enter Tryz.func117, Tryz.ntmps117
    go_upto_region 1 with (fail)
    rw [HW.out]
    go_quiet (fail)
    go_wp2_with fail
    go_ret
    exact ⟨by rw [HV.out]; try rfl, gr_drewN HG.out _⟩
  · obtain ⟨q1, q2, q3⟩ := str_full hk
    obtain ⟨q, hh, hq, hz, hp, hf⟩ := idx_find (p := fun x : HrV => nb x.key == nb key) (l := p.hours) (by
      have h := hkk
      unfold hrsOk at h
      rw [decide_eq_false hk, Bool.false_or] at h
      exact h)
    have HQ := Lib.hid hq
    have HV := Lib.hid (show cntB p.hours key t = openAt hh.zone hh.rows hh.hol t by unfold cntB; rw [decide_eq_false hk, Bool.false_or, hf]; rfl)
    have HHO := Lib.hid (h.hours.2 hh (mem_of_get hz))
    have HHR := Lib.hid (hr hh (mem_of_get hz))
    have hqn : q < p.hn := by rw [← h.hours.1.len]; exact (List.getElem?_eq_some_iff.1 hz).1
    have hqn2 : (q : Int) < (p.hn : Int) := by omega
    obtain ⟨g, o, h2, hhA, _, hgl, hz2, hcc⟩ := h.hours.1.get HrV.row_len hqn
    obtain rfl : hh = h2 := by rw [hz] at hz2; injection hz2
    have HA := Lib.hid hhA
    have HZ := Lib.hid hz
    obtain ⟨V, hV⟩ : ∃ V, openAt hh.zone hh.rows hh.hol t = V := ⟨_, rfl⟩
    have HVV := Lib.hid hV
    clear hkk hq hp hf hz hz2 hcc hhA hr hgl hV
    have H0 := Lib.hid h
    clear h hk
    go_enter Tryz.func117, Tryz.ntmps117
    go_upto_region 1 with (fail)
    rw [HW.out]
    refine H_begin (fun w' => W1.grownBy w' none) (by kernel_rfl) ?_
    have hHeld : W1.grownBy W1.drew none := gr_drew (gr_refl _ _)
    refine H_take (k := 0) (v := ?_) (by rfl) (by kernel_rfl) (by kernel_rfl) (by kernel_rfl) (by exact fun _ _ _ h => h) (by rfl) ?_ (by assumption) ?_
    rotate_left 1
    · intro w hSw
      (try dsimp only at hSw)
      go_simp
      (try with_reducible rfl)
    (try simp only [Act.put, List.setIfInBounds_toArray, List.set_cons_zero, List.set_cons_succ])
    refine H_take (k := 1) (v := ?_) (by rfl) (by kernel_rfl) (by kernel_rfl) (by kernel_rfl) (by exact fun _ _ _ h => h) (by rfl) ?_ (by assumption) ?_
    rotate_left 1
    · intro w hSw
      (try dsimp only at hSw)
      go_simp
      (try with_reducible rfl)
    (try simp only [Act.put, List.setIfInBounds_toArray, List.set_cons_zero, List.set_cons_succ])
    refine H_take (k := 2) (v := ?_) (by rfl) (by kernel_rfl) (by kernel_rfl) (by kernel_rfl) (by exact fun _ _ _ h => h) (by rfl) ?_ (by assumption) ?_
    rotate_left 1
    · intro w hSw
      (try dsimp only at hSw)
      go_simp
      (try with_reducible rfl)
    (try simp only [Act.put, List.setIfInBounds_toArray, List.set_cons_zero, List.set_cons_succ])
    refine H_take (k := 3) (v := ?_) (by rfl) (by kernel_rfl) (by kernel_rfl) (by kernel_rfl) (by exact fun _ _ _ h => h) (by rfl) ?_ (by assumption) ?_
    rotate_left 1
    · intro w hSw
      (try dsimp only at hSw)
      go_simp
      (try with_reducible rfl)
    (try simp only [Act.put, List.setIfInBounds_toArray, List.set_cons_zero, List.set_cons_succ])
    refine H_take (k := 4) (v := ?_) (by rfl) (by kernel_rfl) (by kernel_rfl) (by kernel_rfl) (by exact fun _ _ _ h => h) (by rfl) ?_ hHeld ?_
    rotate_left 1
    · intro w' hSw
      have kc := (HP.out.grown hSw (by simp)).cell 1
      go_simp
      (try with_reducible rfl)
    (try simp only [Act.put, List.setIfInBounds_toArray, List.set_cons_zero, List.set_cons_succ])
    refine H_take (k := 5) (v := ?_) (by rfl) (by kernel_rfl) (by kernel_rfl) (by kernel_rfl) (by exact fun _ _ _ h => h) (by rfl) ?_ (by assumption) ?_
    rotate_left 1
    · intro w hSw
      (try dsimp only at hSw)
      go_simp
      (try with_reducible rfl)
    (try simp only [Act.put, List.setIfInBounds_toArray, List.set_cons_zero, List.set_cons_succ])
    refine H_take (k := 6) (v := ?_) (by rfl) (by kernel_rfl) (by kernel_rfl) (by kernel_rfl) (by exact fun _ _ _ h => h) (by rfl) ?_ hHeld ?_
    rotate_left 1
    · intro w' hSw
      have kc := (HP.out.grown hSw (by simp)).cell 1
      go_simp
      (try with_reducible rfl)
    (try simp only [Act.put, List.setIfInBounds_toArray, List.set_cons_zero, List.set_cons_succ])
    refine H_take (k := 7) (v := ?_) (by rfl) (by kernel_rfl) (by kernel_rfl) (by kernel_rfl) (by exact fun _ _ _ h => h) (by rfl) ?_ (by assumption) ?_
    rotate_left 1
    · intro w hSw
      (try dsimp only at hSw)
      go_simp
      (try with_reducible rfl)
    (try simp only [Act.put, List.setIfInBounds_toArray, List.set_cons_zero, List.set_cons_succ])
    refine H_take (k := 11) (v := ?_) (by rfl) (by kernel_rfl) (by kernel_rfl) (by kernel_rfl) (by exact fun _ _ _ h => h) (by rfl) ?_ (by assumption) ?_
    rotate_left 1
    · intro w hSw
      (try dsimp only at hSw)
      go_simp
      (try with_reducible rfl)
    (try simp only [Act.put, List.setIfInBounds_toArray, List.set_cons_zero, List.set_cons_succ])
    refine H_run (k := 8) (by rfl) (by kernel_rfl) (by rfl) (fun K hK => ?_)
    go_simp
    refine (hoursAt_any lo p.hA p.hn p.hc p.hours key _ (H0.out.hours.1.grown (gr_drew HG.out) (fun g e => by cases e)) hhn).mono ?_
    rintro e w2 ⟨rfl, hg2⟩
    rw [show hrIx p.hours key = _ from HQ.out]
    have hh2 := gr_none (gr_drew (gr_refl W1 none)) hg2
    refine hK _ _ hh2 ?_
    clear hK K hHeld hg2
    have hHeld := hh2
    clear hh2
    have hA := HA.out
    refine H_take (k := 9) (v := ?_) (by rfl) (by kernel_rfl) (by kernel_rfl) (by kernel_rfl) (by exact fun _ _ _ h => h) (by rfl) ?_ (by assumption) ?_
    rotate_left 1
    · intro w hSw
      (try dsimp only at hSw)
      go_simp
      (try with_reducible rfl)
    (try simp only [Act.put, List.setIfInBounds_toArray, List.set_cons_zero, List.set_cons_succ])
    refine H_take (k := 10) (v := .agg #[.string hh.key, .int .i64 hh.zone, .slice hh.rA hh.rn hh.rc, .slice hh.hA hh.hn hh.hc]) (by rfl) (by kernel_rfl) (by kernel_rfl) (by kernel_rfl) (by exact fun _ _ _ h => h) (by rfl) (fun w' hSw => exec_load_rec Tryz.hrT _ rfl _ rfl [.string hh.key, .int .i64 hh.zone, .slice hh.rA hh.rn hh.rc, .slice hh.hA hh.hn hh.hc] (fun j u hu => by
           rw [add_mk]
           have hr2 := H0.out.hours.1.grown (gr_none HG.out hSw) (fun g e => by cases e)
           rw [HA.out] at hr2
           exact hr2.at_ HrV.row_len HZ.out j u hu) rfl) hHeld ?_
    (try simp only [Act.put, List.setIfInBounds_toArray, List.set_cons_zero, List.set_cons_succ])
    clear hA
    refine H_run (k := 12) (by rfl) (by kernel_rfl) (by rfl) (fun K hK => ?_)
    go_simp
    refine (openOf_any lo hh t _ (HHO.out.grown (gr_none HG.out hHeld) (fun g e => by cases e)) HHR.out t0 t1).mono ?_
    rintro e w3 ⟨rfl, hg3⟩
    rw [HVV.out]
    have hh3 := gr_none hHeld hg3
    refine hK _ _ hh3 ?_
    clear hK K hHeld hg3
    have hHeld := hh3
    clear hh3
    refine H_take (k := 13) (v := ?_) (by rfl) (by kernel_rfl) (by kernel_rfl) (by kernel_rfl) (by exact fun _ _ _ h => h) (by rfl) ?_ (by assumption) ?_
    rotate_left 1
    · intro w hSw
      (try dsimp only at hSw)
      go_simp
      (try with_reducible rfl)
    (try simp only [Act.put, List.setIfInBounds_toArray, List.set_cons_zero, List.set_cons_succ])
    refine H_take (k := 14) (v := ?_) (by rfl) (by kernel_rfl) (by kernel_rfl) (by kernel_rfl) (by exact fun _ _ _ h => h) (by rfl) ?_ (by assumption) ?_
    rotate_left 1
    · intro w hSw
      (try dsimp only at hSw)
      go_simp
      (try with_reducible rfl)
    (try simp only [Act.put, List.setIfInBounds_toArray, List.set_cons_zero, List.set_cons_succ])
    refine H_done (by kernel_rfl) ?_
    go_wp2_with fail
    go_ret
    exact ⟨by rw [HV.out, HVV.out]; try rfl, gr_none HG.out hHeld⟩
end
end Go.Proofs.YtpjheibkacbbcaaGreatDoor
/- Contracts of slices.Grow and slices.Concat at strings, and of the document's OrderOf. Conditions: none. -/
namespace Go.Proofs.YtpjheibkacbbcaaGreatDoor
section
open Go.RowKit

/-- What lies in the first i of two slices. -/
def two (l1 l2 : List ByteArray) : Nat → List ByteArray
  | 0 => []
  | 1 => l1
  | _ => l1 ++ l2
end
end Go.Proofs.YtpjheibkacbbcaaGreatDoor

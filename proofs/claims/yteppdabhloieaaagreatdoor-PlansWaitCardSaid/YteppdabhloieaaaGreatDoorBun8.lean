/- Contract of longer. Conditions: a pattern and a string that are right. -/
import Derived.Test.YteppdabhloieaaaGreatDoorBun7
namespace Go.Proofs.YteppdabhloieaaaGreatDoor
section
open Go.RowKit
set_option maxRecDepth 100000 in
set_option maxHeartbeats 4000000 in
theorem longer_any (A : Option Addr) (n c : Nat) (x : List Nat × Nat) (s : ByteArray) (w : World) (h : Ints .u16 w 0 A n c (u16L x.1)) (hr : Right x) (hm : many x ≤ 30) (hn : n ≤ 30) (hs : s.size ≤ 30) (hd : ∀ b ∈ nb s, b ∈ sgn) :
   Calls Tryz.prog 49 #[.agg #[.slice A n c, .int .u8 x.2], .string s] w (RetV (.bool (longB x (nb s))) w) := by
 have hl : x.1.length = n := by rw [← u16L_len, h.len]
 have H := Lib.hid h; have HR := Lib.hid hr; have HD := Lib.hid hd
 have hnb := nb_len s
 obtain ⟨S, t⟩ := x
 dsimp only at hl ⊢
 have hmn : n + (if t = 0 then 0 else 1) ≤ 30 := by have := hm; unfold many at this; dsimp only at this; omega
 obtain ⟨B, hB⟩ : ∃ B, begS (S, t) (nb s) = B := ⟨_, rfl⟩
 have HV : longB (S, t) (nb s) = (B && decide (s.size < 30) && (t != 0 || decide (s.size < n))) := by unfold longB; rw [hB, hnb]; dsimp only; rw [hl]
 have HBB := Lib.hid hB
 have HVV := Lib.hid HV
 obtain ⟨W1, hW⟩ : ∃ W1, w.alloc (.cells #[.slice A n c, .int .u8 t] 86) = W1 := ⟨_, rfl⟩
 have HP := Lib.hid (show Blk W1 w.heap.size 86 #[.slice A n c, .int .u8 t] by rw [← hW]; exact Blk.new _ _ _)
 have HG := Lib.hid (show w.grownBy W1 none by rw [← hW]; exact gr_alloc (gr_refl _ _) _)
 have HW := Lib.hid hW
 have ht : t = 0 ∨ t = 46 ∨ t = 33 := hr.1
 clear h hr hd hB HV hW hl hm hnb
 go_enter Tryz.func49, Tryz.ntmps49
 go_upto_region 1 with (fail)
 rw [HW.out]
 go_wp2_with (first
   | (refine wpl_load_all Tryz.patT rfl _ rfl _ rfl _ _ HP.out rfl ?_)
   | fail)
 refine (beginsS_any A n c (S, t) s _ (H.out.grown HG.out gn_) HR.out hn hs HD.out).mono ?_
 rintro e w1 ⟨rfl, hg1⟩
 rw [HBB.out]
 replace HP := Lib.hid (HP.out.grown hg1 (by simp))
 replace HG := Lib.hid (gr_none HG.out hg1)
 clear hg1
 have c0 := HP.out.cell 0
 have c1 := HP.out.cell 1
 cases B
 · go_wp2_with fail
   go_ret
   exact ⟨by rw [HVV.out]; rfl, HG.out⟩
 · by_cases h30 : s.size < 30
   · have d1 : decide ((30 : Int) ≤ (s.size : Int)) = false := decide_eq_false (by omega)
     have HV2 := Lib.hid (show longB (S, t) (nb s) = (t != 0 || decide (s.size < n)) by rw [HVV.out, decide_eq_true h30]; rfl)
     rcases ht with rfl | rfl | rfl
     · go_wp2_with fail
       go_ret
       exact ⟨by rw [HV2.out]; rfl, HG.out⟩
     · have hn29 : n ≤ 29 := by simpa using hmn
       have d2 : decide ((n : Int) + 1 ≤ 30) = true := decide_eq_true (by omega)
       go_wp2_with fail
       go_ret
       exact ⟨by rw [HV2.out]; rfl, HG.out⟩
     · have hn29 : n ≤ 29 := by simpa using hmn
       have d2 : decide ((n : Int) ≤ 30) = true := decide_eq_true (by omega)
       go_wp2_with fail
       go_ret
       exact ⟨by rw [HV2.out]; rfl, HG.out⟩
   · have d1 : decide ((30 : Int) ≤ (s.size : Int)) = true := decide_eq_true (by omega)
     have HV2 := Lib.hid (show longB (S, t) (nb s) = false by rw [HVV.out, decide_eq_false h30]; rfl)
     clear h30
     go_wp2_with fail
     go_ret
     exact ⟨by rw [HV2.out]; rfl, HG.out⟩
end
end Go.Proofs.YteppdabhloieaaaGreatDoor
namespace Go.Proofs.YteppdabhloieaaaGreatDoor
section
open Go.RowKit
structure RowV where
 A : Option Addr
 n : Nat
 c : Nat
 l : List Int
def rv (r : RowV) : Value := .slice r.A r.n r.c
def RowsV (w : World) (A : Option Addr) (n c : Nat) (L : List RowV) : Prop := Reads w 0 1 A n c (L.map rv) ∧ ∀ r ∈ L, Ints .i64 w 0 r.A r.n r.c r.l ∧ r.n ≤ 100
theorem RowsV.len {w : World} {A : Option Addr} {n c : Nat} {L : List RowV} (h : RowsV w A n c L) : L.length = n := by have := h.1.1; simpa using this
theorem RowsV.grown {w w' : World} {A : Option Addr} {n c : Nat} {L : List RowV} (h : RowsV w A n c L) (hg : w.grownBy w' none) : RowsV w' A n c L :=
 ⟨h.1.grown hg gn_, fun r hr => ⟨(h.2 r hr).1.grown hg gn_, (h.2 r hr).2⟩⟩
theorem RowsV.get {w : World} {A : Option Addr} {n c i : Nat} {L : List RowV} (h : RowsV w A n c L) (hi : i < n) : ∃ g o r, A = some ⟨g, o, none⟩ ∧ L[i]? = some r ∧ w.cell? ⟨g, o + i, none⟩ = some (.slice r.A r.n r.c) ∧ Ints .i64 w 0 r.A r.n r.c r.l ∧ r.n ≤ 100 := by
 obtain ⟨g, o, u, e, _, _, h3, h4⟩ := Reads.at_ h.1 hi
 have hl : i < L.length := by rw [h.len]; exact hi
 rw [List.getElem?_map, List.getElem?_eq_getElem hl] at h3
 refine ⟨g, o, L[i], e, List.getElem?_eq_getElem hl, ?_, h.2 _ (List.getElem_mem _)⟩
 rw [h4, ← h3]; rfl
def lsOf (L : List RowV) : List (List Int) := L.map (·.l)
theorem cmpLL_drop {l m : List (List Int)} {i : Nat} {a b : List Int} (hl : l[i]? = some a) (hm : m[i]? = some b) : cmpLL (l.drop i) (m.drop i) = if cmpL a b = 0 then cmpLL (l.drop (i + 1)) (m.drop (i + 1)) else cmpL a b := by
 obtain ⟨h1, rfl⟩ := List.getElem?_eq_some_iff.1 hl
 obtain ⟨h2, rfl⟩ := List.getElem?_eq_some_iff.1 hm
 rw [List.drop_eq_getElem_cons h1, List.drop_eq_getElem_cons h2, cmpLL]
theorem cmpLL_gt {l m : List (List Int)} {i : Nat} (hl : i < l.length) (hm : m.length ≤ i) : cmpLL (l.drop i) (m.drop i) = 1 := by
 rw [List.drop_eq_nil_of_le hm, List.drop_eq_getElem_cons hl]; rfl
theorem cmpLL_end {l m : List (List Int)} {i : Nat} (hl : l.length = i) : cmpLL (l.drop i) (m.drop i) = if i < m.length then -1 else 0 := by
 rw [List.drop_eq_nil_of_le (by omega)]
 by_cases h : i < m.length
 · rw [if_pos h, List.drop_eq_getElem_cons h]; rfl
 · rw [if_neg h, List.drop_eq_nil_of_le (by omega)]; rfl
set_option maxHeartbeats 2000000 in
theorem compareFunc_any (A A' : Option Addr) (n c n' c' : Nat) (L M : List RowV) (w : World) (h : RowsV w A n c L) (h' : RowsV w A' n' c' M) (hn : n ≤ 1000) (hn' : n' ≤ 1000) :
   Calls Tryz.prog 127 #[.slice A n c, .slice A' n' c', .func (.func 129) #[] #[]] w (Same (.int .i64 (cmpLL (lsOf L) (lsOf M))) w) := by
 have H := Lib.hid h; have H' := Lib.hid h'
 have HL := Lib.hid (show (lsOf L).length = n by unfold lsOf; rw [List.length_map, h.len])
 have HL' := Lib.hid (show (lsOf M).length = n' by unfold lsOf; rw [List.length_map, h'.len])
 clear h h'
 go_enter Tryz.func127, Tryz.ntmps127
 go_wp2_with fail
 go_loop [7, 8, 9, 10, 13] (fun _ _ _ _ t => ∃ i : Nat, i ≤ n ∧ t = .int .i64 i ∧ cmpLL (lsOf L) (lsOf M) = cmpLL ((lsOf L).drop i) ((lsOf M).drop i)) (fun _ _ _ _ t => n - (intOf t).toNat)
 case atStart => exact ⟨0, Nat.zero_le _, rfl, rfl⟩
 case round =>
   obtain ⟨i, hi, rfl, he⟩ := hrel
   have HE := Lib.hid he; clear he
   by_cases hlt : i < n
   · obtain ⟨g, o, r, rfl, hz, hc, hI, hrn⟩ := H.out.get hlt
     by_cases hm : i < n'
     · obtain ⟨g', o', r', rfl, hz', hc', hI', hrn'⟩ := H'.out.get hm
       have HS := Lib.hid (show cmpLL (lsOf L) (lsOf M) = if cmpL r.l r'.l = 0 then cmpLL ((lsOf L).drop (i + 1)) ((lsOf M).drop (i + 1)) else cmpL r.l r'.l by
         rw [HE.out, cmpLL_drop (a := r.l) (b := r'.l) (by unfold lsOf; rw [List.getElem?_map, hz]; rfl) (by unfold lsOf; rw [List.getElem?_map, hz']; rfl)])
       have HI := Lib.hid hI; have HI' := Lib.hid hI'
       have d1 : decide ((n' : Int) ≤ (i : Int)) = false := decide_eq_false (by omega)
       have d1' : decide (n' ≤ i) = false := decide_eq_false (by omega)
       obtain ⟨q, hq⟩ : ∃ q, cmpL r.l r'.l = q := ⟨_, rfl⟩
       have HQ := Lib.hid hq
       clear hz hz' hq hI hI'
       by_cases hq0 : q = 0
       · have b1 : (q != 0) = false := by simp [hq0]
         have HN := Lib.hid (show cmpLL (lsOf L) (lsOf M) = cmpLL ((lsOf L).drop (i + 1)) ((lsOf M).drop (i + 1)) by rw [HS.out, HQ.out, if_pos hq0])
         clear hq0
         go_wp2_with (first
           | (go_at_call 129; refine (befFn_any 0 0 _ _ _ _ _ _ r.l r'.l _ HI.out HI'.out (by omega) (by omega)).mono ?_; rintro e w' ⟨rfl, rfl⟩; rw [HQ.out])
           | fail)
         go_round
         case rel => exact ⟨i + 1, by omega, by go_num, HN.out⟩
         case measure => simp [intOf]; omega
       · have b1 : (q != 0) = true := by simpa using hq0
         have HN := Lib.hid (show cmpLL (lsOf L) (lsOf M) = q by rw [HS.out, HQ.out, if_neg hq0])
         clear hq0
         go_wp2_with (first
           | (go_at_call 129; refine (befFn_any 0 0 _ _ _ _ _ _ r.l r'.l _ HI.out HI'.out (by omega) (by omega)).mono ?_; rintro e w' ⟨rfl, rfl⟩; rw [HQ.out])
           | fail)
         go_ret
         exact ⟨by rw [HN.out]; rfl, rfl⟩
     · have HN := Lib.hid (show cmpLL (lsOf L) (lsOf M) = 1 by rw [HE.out, cmpLL_gt (by rw [HL.out]; exact hlt) (by rw [HL'.out]; omega)])
       have d1 : decide ((n' : Int) ≤ (i : Int)) = true := decide_eq_true (by omega)
       have d1' : decide (n' ≤ i) = true := decide_eq_true (by omega)
       clear hz hI
       go_wp2_with fail
       go_ret
       exact ⟨by rw [HN.out]; rfl, rfl⟩
   · obtain rfl : i = n := by omega
     have HN := Lib.hid (show cmpLL (lsOf L) (lsOf M) = if i < n' then -1 else 0 by rw [HE.out, cmpLL_end HL.out, HL'.out])
     by_cases hlt2 : i < n'
     · have d1 : decide ((i : Int) < (n' : Int)) = true := decide_eq_true (by omega)
       have d1' : decide (i < n') = true := decide_eq_true hlt2
       go_wp2_with fail
       go_ret
       exact ⟨by rw [HN.out, if_pos hlt2]; rfl, rfl⟩
     · have d1 : decide ((i : Int) < (n' : Int)) = false := decide_eq_false (by omega)
       have d1' : decide (i < n') = false := decide_eq_false hlt2
       go_wp2_with fail
       go_ret
       exact ⟨by rw [HN.out, if_neg hlt2]; rfl, rfl⟩
theorem Tryz.intT : ElemT Tryz.prog 22 3 1 8 (.int .i64 0) := elemT_of Tryz.underlying22 (by kernel_rfl) rfl (by decide)
theorem Tryz.rowsT : ElemT Tryz.prog 187 22 1 24 (.slice none 0 0) := elemT_of Tryz.underlying187 (by kernel_rfl) rfl (by decide)
def rowOf (M : Nat) : List Int := ((setStr M).length : Int) :: ints (setStr M)
def PlRel (w wr : World) (S : List Nat) (i : Nat) (A : Option Addr) (n c : Nat) (L : List RowV) : Prop :=
 w.grownBy wr none ∧ Own wr w.heap.size 22 1 A n c (L.map rv) ∧ (∀ r ∈ L, Own wr w.heap.size 3 1 r.A r.n r.c (r.l.map (Value.int .i64)) ∧ r.n ≤ 13) ∧ lsOf L = (S.take i).map rowOf ∧ n = i
def PlLoop (w : World) (S : List Nat) (v t : Value) (wr : World) : Prop := ∃ (i : Nat) (A : Option Addr) (n c : Nat) (L : List RowV), i ≤ S.length ∧ t = .int .i64 i ∧ v = .slice A n c ∧ PlRel w wr S i A n c L
def PlIn (wo : World) (q : List Nat) (v t : Value) (wr : World) : Prop := ∃ (j : Nat) (A : Option Addr) (n c : Nat), j ≤ q.length ∧ t = .int .i64 j ∧ v = .slice A n c ∧ wo.grownBy wr none ∧ n = j + 1 ∧ Own wr wo.heap.size 3 1 A n c (((q.length : Int) :: ints (q.take j)).map (Value.int .i64))
def IsPl (x : List Nat × Nat) (v : Value) (w : World) : Prop := ∃ (A : Option Addr) (n c : Nat) (L : List RowV), v = .slice A n c ∧ RowsV w A n c L ∧ lsOf L = rowsL x ∧ n ≤ 31
open Go.Maps in
theorem Tryz.keyB8 : Keyed Tryz.prog 5 := int_keyed Tryz.underlying5
theorem Tryz.zeroI (w : World) : (zeroValue 3).run Tryz.prog w = .ok (.int .i64 0) w := by kernel_rfl
open Go.Maps in
theorem tail_map (w : World) (t : Nat) (ht : t = 0 ∨ t = 46 ∨ t = 33) : ∃ w1 w2 w3, (Instr.mapUpdate 216 (.map (some w.heap.size)) (.int .u8 46) (.int .i64 100)).run Tryz.prog (w.alloc (.map #[] 0)) = .ok () w1 ∧
   (Instr.mapUpdate 216 (.map (some w.heap.size)) (.int .u8 0) (.int .i64 101)).run Tryz.prog w1 = .ok () w2 ∧ (Instr.mapUpdate 216 (.map (some w.heap.size)) (.int .u8 33) (.int .i64 102)).run Tryz.prog w2 = .ok () w3 ∧
   (Instr.lookup 216 (.map (some w.heap.size)) (.int .u8 t) false).run Tryz.prog w3 = .ok (.int .i64 (tailN t : Nat)) w3 ∧ w.grownBy w3 none := by
 have h0 : (w.alloc (.map #[] 0)).ownsMap Tryz.prog 5 (plainElem Tryz.prog 3) w.heap.size 0 (.map [] : DataW Unit) := World.ownsMap_made _ _ _ _
 obtain ⟨w1, r1, o1, g1⟩ := h0.update Tryz.keyB8 Tryz.underlying216 (by unfold maxLen; omega) (keyOf_int_mk Tryz.underlying5 (a := 46) (by decide)) (plainElem_int Tryz.underlying3 (a := 100) (by decide))
 obtain ⟨w2, r2, o2, g2⟩ := o1.update Tryz.keyB8 Tryz.underlying216 (by unfold maxLen; omega) (keyOf_int_mk Tryz.underlying5 (a := 0) (by decide)) (plainElem_int Tryz.underlying3 (a := 101) (by decide))
 obtain ⟨w3, r3, o3, g3⟩ := o2.update Tryz.keyB8 Tryz.underlying216 (by unfold maxLen; omega) (keyOf_int_mk Tryz.underlying5 (a := 33) (by decide)) (plainElem_int Tryz.underlying3 (a := 102) (by decide))
 have k46 : WideAt.IsKeyLit (.int .u8 46) := Tryz.keyB8.key (keyOf_int_mk Tryz.underlying5 (a := 46) (by decide))
 have k0 : WideAt.IsKeyLit (.int .u8 0) := Tryz.keyB8.key (keyOf_int_mk Tryz.underlying5 (a := 0) (by decide))
 have k33 : WideAt.IsKeyLit (.int .u8 33) := Tryz.keyB8.key (keyOf_int_mk Tryz.underlying5 (a := 33) (by decide))
 have t0 : Maps.Tidy (.map [] : DataW Unit) := Maps.tidy_empty
 have t1 := t0.put k46 (.lit (.int .i64 100))
 have t2 := t1.put k0 (.lit (.int .i64 101))
 refine ⟨w1, w2, w3, r1, r2, r3, ?_, ?_⟩
 · rcases ht with rfl | rfl | rfl
   · obtain ⟨c, hrun, hat, _⟩ := o3.lookup_int Tryz.keyB8 Tryz.underlying216 Tryz.underlying3 (Tryz.zeroI w3) (keyOf_int_mk Tryz.underlying5 (a := 0) (by decide))
     rw [Maps.atKey_put_other (by simp), Maps.atKey_put_same t1.isMap k0] at hat
     simp only [DataW.lit.injEq, Lit.int.injEq, true_and] at hat
     rw [← hat] at hrun
     exact hrun
   · obtain ⟨c, hrun, hat, _⟩ := o3.lookup_int Tryz.keyB8 Tryz.underlying216 Tryz.underlying3 (Tryz.zeroI w3) (keyOf_int_mk Tryz.underlying5 (a := 46) (by decide))
     rw [Maps.atKey_put_other (by simp), Maps.atKey_put_other (by simp), Maps.atKey_put_same t0.isMap k46] at hat
     simp only [DataW.lit.injEq, Lit.int.injEq, true_and] at hat
     rw [← hat] at hrun
     exact hrun
   · obtain ⟨c, hrun, hat, _⟩ := o3.lookup_int Tryz.keyB8 Tryz.underlying216 Tryz.underlying3 (Tryz.zeroI w3) (keyOf_int_mk Tryz.underlying5 (a := 33) (by decide))
     rw [Maps.atKey_put_same t2.isMap k33] at hat
     simp only [DataW.lit.injEq, Lit.int.injEq, true_and] at hat
     rw [← hat] at hrun
     exact hrun
 · refine gr_trans (gr_alloc (gr_refl w none) (.map #[] 0)) (gr_same (gr_same g1 g2) g3) (fun g e => .inr ?_)
   injection e with e
   omega
set_option maxRecDepth 100000 in
set_option maxHeartbeats 8000000 in
theorem places_any (p : ByteArray) (x : List Nat × Nat) (w : World) (h : patX (nb p) = some x) :
   Calls Tryz.prog 128 #[.string p] w (RetP (IsPl x) w) := by
 obtain ⟨S, t⟩ := x
 have HX := Lib.hid h
 have HRT := Lib.hid (patX_right h).1
 clear h
 go_enter Tryz.func128, Tryz.ntmps128
 go_wp2_with fail
 refine (shape_ok p _ _ HX.out).mono ?_
 rintro e w1 ⟨v1, rfl, ⟨A0, n0, c0, rfl, hst, hn0⟩, hg1⟩
 dsimp only at hst
 have HS := Lib.hid (show Strs (w1.alloc (.cells #[.slice A0 n0 c0, .int .u8 t] 109)) 0 A0 n0 c0 S from Reads.alloc (Reads.lower hst (Nat.zero_le _)) _)
 have HLN := Lib.hid hst.len
 have HB := Lib.hid (Blk.new w1 109 #[.slice A0 n0 c0, .int .u8 t])
 have HG := Lib.hid (gr_alloc hg1 (.cells #[.slice A0 n0 c0, .int .u8 t] 109))
 clear hst hg1
 go_wp2_with fail
 generalize w1.alloc (.cells #[.slice A0 n0 c0, .int .u8 t] 109) = wb at *
 go_loopw [5, 7, 8, 9, 18, 27] (fun v _ _ _ t _ wr => PlLoop wb S v t wr) (fun _ _ _ _ t _ _ => n0 - (intOf t).toNat)
 case atStart => exact ⟨0, none, 0, 0, [], Nat.zero_le _, rfl, rfl, gr_refl _ _, Own.nil _ _ _ _, fun r hr => (by cases hr), rfl, rfl⟩
 case round =>
   obtain ⟨i, A, n, c, L, hi, rfl, rfl, hg, ho, hrows, hls, rfl⟩ := hrel
   have HGR := Lib.hid hg; have HO := Lib.hid ho; have HRW := Lib.hid hrows; have HLS := Lib.hid hls
   rw [HLN.out] at hi
   have zr := hg.size
   clear hg ho hrows hls
   by_cases hil : n < n0
   · obtain ⟨g, o, rfl, _, hgl, hc⟩ := (HS.out.grown HGR.out gn_).get hil
     obtain ⟨M, hM⟩ : ∃ M, S.getD n 0 = M := ⟨_, rfl⟩
     rw [hM] at hc
     have HTK := Lib.hid (show (S.take (n + 1)).map rowOf = (S.take n).map rowOf ++ [rowOf M] by
       rw [take_snoc' (show S[n]? = some M by rw [List.getElem?_eq_getElem (by rw [HLN.out]; exact hil), ← hM, List.getD_eq_getElem?_getD, List.getElem?_eq_getElem (by rw [HLN.out]; exact hil)]; rfl), List.map_append]; rfl)
     obtain ⟨q, hq⟩ : ∃ q, setStr M = q := ⟨_, rfl⟩
     have HRO := Lib.hid (show rowOf M = (q.length : Int) :: ints q by unfold rowOf; rw [hq])
     have q12 : q.length ≤ 12 := by rw [← hq]; exact setStr_len M
     obtain ⟨u, hu⟩ : ∃ u, strN (setStr M) = u := ⟨_, rfl⟩
     rw [hu] at hc
     have HNU := Lib.hid (show nb u = q by rw [← hu, nb_strN (setStr_bd M), hq])
     have huz : u.size = q.length := by rw [← nb_len, HNU.out]
     have HUZ := Lib.hid huz
     have u12 : u.size ≤ 12 := by omega
     clear hM hq hu huz
     obtain ⟨wo, rfl⟩ : ∃ wo : World, wo = wr := ⟨_, rfl⟩
     go_wp2_with fail
     go_loopw [8, 9, 27] (fun v _ t wr => PlIn wo q v t wr) (fun _ _ t _ => 12 - (intOf t).toNat)
     case atStart =>
       refine ⟨0, _, 1, 1, Nat.zero_le _, rfl, rfl, gr_alloc (gr_refl _ _) _, rfl, ?_⟩
       rw [← HUZ.out]
       exact Own.lit wo 3 1 [.int .i64 u.size] 1 (by unfold maxLen; omega) rfl
     case round =>
       obtain ⟨j, A2, n2, c2, hj, rfl, rfl, hg2, rfl, ho2⟩ := hrel
       have HG2 := Lib.hid hg2; have HO2 := Lib.hid ho2
       have z2 := hg2.size
       clear hg2 ho2
       by_cases hjl : j < u.size
       · obtain ⟨b, hb⟩ : ∃ b, u[j].toNat = b := ⟨_, rfl⟩
         have b256 : b < 256 := by rw [← hb]; exact UInt8.toNat_lt _
         have HTB := Lib.hid (show ints (q.take (j + 1)) = ints (q.take j) ++ [(b : Int)] by
           have hjq : j < q.length := by rw [← HUZ.out]; exact hjl
           rw [take_snoc' (show q[j]? = some b by
             rw [List.getElem?_eq_getElem hjq]
             have := nb_get hjl
             rw [HNU.out, hb, List.getD_eq_getElem?_getD, List.getElem?_eq_getElem hjq] at this
             rw [this]; rfl)]
           unfold ints; rw [List.map_append]; rfl)
         have d1 : decide ((j : Int) < (u.size : Int)) = true := decide_eq_true (by omega)
         go_wp2_with (first
           | (at_builtin
              refine wpl_app _ rfl _ _ Tryz.intT rfl wo.heap.size A2 (j + 1) c2 _ rfl (by exact HO2.out.alloc _) _ _ 1 1 [.int .i64 b] rfl (by exact Reads.one _ _ _ _ rfl) (by simp [Value.oneCell']) (by unfold maxLen; omega) (by omega) (by simp; omega) ?_
              intro A10 c10 w10 h10
              have H10 := Lib.hid h10; clear h10)
           | fail)
         go_roundw
         case rel =>
           refine ⟨j + 1, A10, j + 1 + 1, c10, by have := HUZ.out; omega, by go_num, rfl, H10.out.gr (gr_alloc HG2.out _) (HO2.out.alloc _) (Nat.le_refl _), rfl, ?_⟩
           have h := H10.out.1
           rw [HTB.out, ← List.cons_append, List.map_append]
           exact h
         case measure => simp [intOf]; omega
       · obtain rfl : j = u.size := by have := HUZ.out; omega
         have d1 : decide ((u.size : Int) < (u.size : Int)) = false := decide_eq_false (by omega)
         have HO3 := Lib.hid (show Own wr wo.heap.size 3 1 A2 (u.size + 1) c2 ((rowOf M).map (Value.int .i64)) by
           have h := HO2.out
           rw [List.take_of_length_le (by rw [HUZ.out]; exact Nat.le_refl _)] at h
           rw [HRO.out]; exact h)
         have HOO := Lib.hid (Own.kept HO.out HG2.out gn_)
         have hzz : wb.heap.size ≤ wr.heap.size := by omega
         have n30 : n ≤ 30 := by omega
         go_wp2_with (first
           | (at_builtin
              refine wpl_app _ rfl _ _ Tryz.rowsT rfl wb.heap.size A n c _ rfl (by exact HOO.out.alloc _) _ _ 1 1 [.slice A2 (u.size + 1) c2] rfl (by exact Reads.one _ _ _ _ rfl) (by simp [Value.oneCell']) (by unfold maxLen; omega) (by omega) (by simp; omega) ?_
              intro A11 c11 w11 h11
              have H11 := Lib.hid h11; clear h11)
           | fail)
         go_roundw
         case rel =>
           refine ⟨n + 1, A11, n + 1, c11, L ++ [⟨A2, u.size + 1, c2, rowOf M⟩], by rw [HLN.out]; omega, by go_num, rfl, H11.out.gr (gr_alloc (gr_none HGR.out HG2.out) _) (HOO.out.alloc _) (Nat.le_refl _), ?_, ?_, ?_, rfl⟩
           · rw [List.map_append]; exact H11.out.1
           · intro r hr
             rcases List.mem_append.1 hr with h1 | h1
             · have h2 := (HRW.out r h1)
               have h3 := Own.alloc (Own.kept h2.1 HG2.out gn_) (.cells #[.slice A2 (u.size + 1) c2] 22)
               exact ⟨Own.kept h3 H11.out.2.1 (fun g e => Own.ne (Own.alloc HOO.out _) h3 (by decide) e), h2.2⟩
             · rw [List.mem_singleton.1 h1]
               dsimp only
               have h3 := Own.alloc (Own.lower HO3.out zr) (.cells #[.slice A2 (u.size + 1) c2] 22)
               exact ⟨Own.kept h3 H11.out.2.1 (fun g e => Own.ne (Own.alloc HOO.out _) h3 (by decide) e), by omega⟩
           · unfold lsOf
             rw [List.map_append, HTK.out, ← HLS.out]
             rfl
         case measure => simp [intOf]; omega
   · obtain rfl : n = n0 := by omega
     have cB := (HB.out.grown HGR.out (by simp)).cell
     have hmm := @run_makeMap Tryz.prog
     obtain ⟨m1, m2, m3, r1, r2, r3, r4, gm⟩ := tail_map wr t HRT.out
     have HGM := Lib.hid gm
     have cM := ((HB.out.grown HGR.out (by simp)).grown gm (by simp)).cell
     have zm := gm.size
     have HOM := Lib.hid (Own.kept HO.out gm gn_)
     clear gm cB
     obtain ⟨tn, htn⟩ : ∃ tn, tailN t = tn := ⟨_, rfl⟩
     rw [htn] at r4
     have HTN := Lib.hid htn
     clear htn
     have HOA := Lib.hid (Own.alloc HOM.out (.cells #[.int .i64 tn] 3))
     have HRD := Lib.hid (show Reads ((m3.alloc (.cells #[.int .i64 tn] 3)).alloc (.cells #[.slice (some ⟨m3.heap.size, 0, none⟩) 1 1] 22)) 0 1 (some ⟨m3.heap.size + 1, 0, none⟩) 1 1 [.slice (some ⟨m3.heap.size, 0, none⟩) 1 1] from by
       have h := (Reads.one (m3.alloc (.cells #[.int .i64 tn] 3)) 22 [.slice (some ⟨m3.heap.size, 0, none⟩) 1 1] 1 rfl).lower (Nat.zero_le _)
       simpa using h)
     go_wp2_with (first
       | (at_builtin
          refine wpl_app _ rfl _ _ Tryz.rowsT rfl wb.heap.size A n c _ rfl (by exact HOA.out.alloc _) 0 _ 1 1 [.slice (some ⟨m3.heap.size, 0, none⟩) 1 1] rfl (by exact HRD.out) (by simp [Value.oneCell']) (by unfold maxLen; omega) (by omega) (by simp; omega) ?_
          intro A11 c11 w11 h11
          have H11 := Lib.hid h11; clear h11)
       | fail)
     go_ret
     have hN := Own.lit m3 3 1 [.int .i64 tn] 1 (by unfold maxLen; omega) rfl
     refine ⟨_, rfl, ⟨A11, n + 1, c11, L ++ [⟨some ⟨m3.heap.size, 0, none⟩, 1, 1, [(tn : Int)]⟩], rfl, ⟨?_, ?_⟩, ?_, by omega⟩, ?_⟩
     · rw [List.map_append]
       exact (Own.reads H11.out.1).lower (Nat.zero_le _)
     · intro r hr
       rcases List.mem_append.1 hr with h1 | h1
       · have h2 := (HRW.out r h1)
         have h3 := Own.alloc (Own.alloc (Own.kept h2.1 HGM.out gn_) (.cells #[.int .i64 tn] 3)) (.cells #[.slice (some ⟨m3.heap.size, 0, none⟩) 1 1] 22)
         have h4 := Own.kept h3 H11.out.2.1 (fun g e => Own.ne (Own.alloc HOA.out _) h3 (by decide) e)
         exact ⟨(Own.reads h4).lower (Nat.zero_le _), by omega⟩
       · rw [List.mem_singleton.1 h1]
         have h3 := Own.alloc hN (.cells #[.slice (some ⟨m3.heap.size, 0, none⟩) 1 1] 22)
         have h4 := Own.kept h3 H11.out.2.1 (fun g e => Own.ne (Own.alloc HOA.out _) h3 (by decide) e)
         exact ⟨(Own.reads h4).lower (Nat.zero_le _), by simp⟩
     · unfold lsOf rowsL
       have h5 := HLS.out
       unfold lsOf at h5
       rw [List.map_append, h5, List.take_of_length_le (by rw [HLN.out]; exact Nat.le_refl _), HTN.out]
       rfl
     · exact gr_none HG.out (H11.out.gr (gr_alloc (gr_alloc (gr_none HGR.out HGM.out) _) _) (HOA.out.alloc _) (Nat.le_refl _))
set_option maxHeartbeats 2000000 in
theorem beforeOf_any (p q : ByteArray) (x y : List Nat × Nat) (w : World) (hp : patX (nb p) = some x) (hq : patX (nb q) = some y) :
   Calls Tryz.prog 71 #[.string p, .string q] w (RetV (.int .i64 (befL x y)) w) := by
 have HP := Lib.hid hp; have HQ := Lib.hid hq
 have HBE := Lib.hid (befL_rows x y)
 clear hp hq
 go_enter Tryz.func71, Tryz.ntmps71
 go_wp2_with fail
 refine (places_any p x _ HP.out).mono ?_
 rintro e w1 ⟨v1, rfl, ⟨A, n, c, L, rfl, hr, hl, hn⟩, hg1⟩
 have HR := Lib.hid hr; have HL := Lib.hid hl; have HG := Lib.hid hg1
 clear hr hl hg1
 go_wp2_with fail
 refine (places_any q y _ HQ.out).mono ?_
 rintro e w2 ⟨v2, rfl, ⟨A', n', c', M, rfl, hr2, hl2, hn2⟩, hg2⟩
 have HR2 := Lib.hid hr2; have HL2 := Lib.hid hl2; have HG2 := Lib.hid (gr_none HG.out hg2)
 have HRA := Lib.hid (HR.out.grown hg2)
 clear hr2 hl2 hg2
 go_wp2_with fail
 refine (compareFunc_any A A' n c n' c' L M _ HRA.out HR2.out (by omega) (by omega)).mono ?_
 rintro e w3 ⟨rfl, rfl⟩
 go_wp2_with fail
 go_ret
 exact ⟨by rw [HBE.out, ← HL.out, ← HL2.out]; rfl, HG2.out⟩
end
end Go.Proofs.YteppdabhloieaaaGreatDoor
namespace Go.Proofs.YteppdabhloieaaaGreatDoor
section
open Go.RowKit
set_option maxHeartbeats 1000000 in
theorem whenF_any (b : Bool) (e : Int) (w : World) : Calls Tryz.prog 13 #[.bool b, .int .i64 e] w (Same (.int .i64 (if b then e else 0)) w) := by
 cases b
 all_goals
   go_enter Tryz.func13, Tryz.ntmps13
   go_wp2_with fail
   go_ret
   exact ⟨rfl, rfl⟩
def momF (t : Int) : Int := if momB t then 0 else 1
set_option maxHeartbeats 1000000 in
theorem momF_any (t : Int) (w : World) : Calls Tryz.prog 16 #[.int .i64 t] w (Same (.int .i64 (momF t)) w) := by
 have HV := Lib.hid (show momF t = if momB t then 0 else 1 from rfl)
 cases hm : momB t
 all_goals
   rw [hm] at HV
   go_enter Tryz.func16, Tryz.ntmps16
   go_wp2_with (first
     | (go_at_call 64; refine (momentB_any _ _).mono ?_; rintro e w' ⟨rfl, rfl⟩; rw [hm])
     | (go_at_call 13; refine (whenF_any _ _ _).mono ?_; rintro e w' ⟨rfl, rfl⟩)
     | fail)
   go_ret
   exact ⟨by rw [HV.out]; rfl, rfl⟩
end
end Go.Proofs.YteppdabhloieaaaGreatDoor

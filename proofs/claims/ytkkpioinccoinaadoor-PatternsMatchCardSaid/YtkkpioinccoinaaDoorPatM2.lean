/- Contracts of rank, before, Before, Matches and CheckPattern. Conditions: none. -/
import Derived.Test.YtkkpioinccoinaaDoorPatM1
namespace Go.Proofs.YtkkpioinccoinaaDoor
open Go.RowKit

theorem cmp_bytes (l m : List UInt8) : Lib.compareBytes l m = cmpL (ints (l.map UInt8.toNat)) (ints (m.map UInt8.toNat)) := by
  induction l generalizing m with
  | nil => cases m <;> rfl
  | cons a l ih =>
    cases m with
    | nil => rfl
    | cons b m =>
      simp only [Lib.compareBytes, ints, List.map_cons, cmpL, cmpI]
      have hab : a < b ↔ (a.toNat : Int) < (b.toNat : Int) := by rw [UInt8.lt_iff_toNat_lt]; omega
      have hba : b < a ↔ (b.toNat : Int) < (a.toNat : Int) := by rw [UInt8.lt_iff_toNat_lt]; omega
      by_cases h1 : a < b
      · simp [h1, hab.1 h1]
      · have h1' : ¬ (a.toNat : Int) < (b.toNat : Int) := fun h => h1 (hab.2 h)
        by_cases h2 : b < a
        · simp [h1, h1', h2, hba.1 h2]
        · have h2' : ¬ (b.toNat : Int) < (a.toNat : Int) := fun h => h2 (hba.2 h)
          simp only [h1, h1', h2, h2', if_false, if_true]
          have := ih m
          unfold ints at this
          exact this
theorem strCompare_any (s t : ByteArray) (w : World) : Calls Tryd.prog 123 #[.string s, .string t] w (Same (.int .i64 (cmpL (ints (nb s)) (ints (nb t)))) w) := by
  refine (Tryd.strings_Compare s t w).mono ?_
  rintro e w' ⟨rfl, rfl⟩
  exact ⟨by rw [cmp_bytes]; rfl, rfl⟩
theorem cmpInt_any (a b : Int) (w : World) : Calls Tryd.prog 129 #[.int .i64 a, .int .i64 b] w (Same (.int .i64 (cmpI a b)) w) := by
  refine (Tryd.cmp_Compare_int a b w).mono ?_
  rintro e w' ⟨rfl, rfl⟩
  exact ⟨rfl, rfl⟩
/-- The first of two numbers that is not 0. -/
def orI (a b : Int) : Int := if a = 0 then b else a
set_option maxHeartbeats 2000000 in
theorem or_new (a b : Int) (W : World) {g : Nat} (hg : W.heap.size = g) : Calls Tryd.prog 128 #[.slice (some ⟨g, 0, none⟩) 2 2] (W.alloc (.cells #[.int .i64 a, .int .i64 b] 3)) (RetV (.int .i64 (orI a b)) W) := by
  subst hg
  have HB := Lib.hid (Blk.new W 3 #[.int .i64 a, .int .i64 b])
  have HG := Lib.hid (gr_alloc (gr_refl W none) (.cells #[.int .i64 a, .int .i64 b] 3))
  generalize W.alloc (.cells #[.int .i64 a, .int .i64 b] 3) = w1 at *
  have c0 : w1.cell? ⟨W.heap.size, 0, none⟩ = some (.int .i64 a) := HB.out.cell 0
  have c1 : w1.cell? ⟨W.heap.size, 1, none⟩ = some (.int .i64 b) := HB.out.cell 1
  go_enter Tryd.func128, Tryd.ntmps128
  go_wp2_with fail
  go_loop [5, 8] (fun _ t => ∃ i : Nat, i ≤ 2 ∧ t = .int .i64 i ∧ (1 ≤ i → a = 0) ∧ (2 ≤ i → b = 0)) (fun _ t => 2 - (intOf t).toNat)
  case atStart => exact ⟨0, by omega, rfl, by omega, by omega⟩
  case round =>
    obtain ⟨i, hi, rfl, h1, h2⟩ := hrel
    have H1 := Lib.hid h1; have H2 := Lib.hid h2
    clear h1 h2
    rcases (by omega : i = 0 ∨ i = 1 ∨ i = 2) with rfl | rfl | rfl
    · by_cases hz : a = 0
      · have q : (a != 0) = false := by simp [hz]
        have HA := Lib.hid hz; clear hz
        go_wp2_with fail
        go_round
        case rel => exact ⟨1, by omega, rfl, fun _ => HA.out, fun h => by omega⟩
        case measure => simp [intOf]
      · have q : (a != 0) = true := by simpa using hz
        have HA := Lib.hid (show orI a b = a by unfold orI; rw [if_neg hz]); clear hz
        go_wp2_with fail
        go_ret
        exact ⟨by rw [HA.out]; rfl, HG.out⟩
    · have ha := H1.out (by omega)
      have HA := Lib.hid (show orI a b = b by unfold orI; rw [if_pos ha]); 
      have HA0 := Lib.hid ha; clear ha
      by_cases hz : b = 0
      · have q : (b != 0) = false := by simp [hz]
        have HBZ := Lib.hid hz; clear hz
        go_wp2_with fail
        go_round
        case rel => exact ⟨2, by omega, rfl, fun _ => HA0.out, fun _ => HBZ.out⟩
        case measure => simp [intOf]
      · have q : (b != 0) = true := by simpa using hz
        clear hz
        go_wp2_with fail
        go_ret
        exact ⟨by rw [HA.out]; rfl, HG.out⟩
    · have HA := Lib.hid (show orI a b = 0 by unfold orI; rw [if_pos (H1.out (by omega)), H2.out (by omega)])
      go_wp2_with fail
      go_ret
      exact ⟨by rw [HA.out]; rfl, HG.out⟩
def strTo (M : Nat) : Nat → List Nat
  | 0 => []
  | i + 1 => strTo M i ++ (if M.testBit i then [sgn.getD i 0] else [])
theorem strTo_len (M i : Nat) : (strTo M i).length ≤ i := by
  induction i with
  | zero => simp [strTo]
  | succ i ih => unfold strTo; rw [List.length_append]; split <;> simp <;> omega
theorem strTo_take (M i : Nat) (hi : i ≤ 12) : strTo M i = (sgn.take i).filter (fun c => hasM M c) := by
  induction i with
  | zero => simp [strTo]
  | succ i ih =>
    have hl : i < sgn.length := by simp [sgn]; omega
    rw [strTo, ih (by omega), List.take_succ_eq_append_getElem hl, List.filter_append]
    congr 1
    have h1 : sgn.getD i 0 = sgn[i] := by rw [List.getD_eq_getElem?_getD, List.getElem?_eq_getElem hl]; rfl
    have h2 : sgIx sgn[i] = i := by
      have : ∀ j : Fin 12, sgIx (sgn.getD j.val 0) = j.val := by decide +kernel
      have := this ⟨i, by omega⟩
      dsimp only at this
      rw [h1] at this
      exact this
    rw [h1, List.filter_cons, List.filter_nil, hasM_bit, h2]
theorem strTo_all (M : Nat) : strTo M 12 = setStr M := by rw [strTo_take M 12 (by omega)]; rfl
theorem bit16 (M i : Nat) (hM : M < 65536) : bits .and .u16 ((M : Int) / 2 ^ i) 1 = if M.testBit i then 1 else 0 := by
  have e : (M : Int) / 2 ^ i = ((M / 2 ^ i : Nat) : Int) := by rw [Int.natCast_ediv, Int.natCast_pow]; rfl
  have hle : M / 2 ^ i ≤ M := Nat.div_le_self _ _
  have h := u16_and (M / 2 ^ i) 1 (by omega) (by omega)
  rw [Nat.and_one_is_mod] at h
  have h4 : ((1 : Nat) : Int) = 1 := rfl
  rw [h4] at h
  rw [e, h, Nat.testBit_eq_decide_div_mod_eq]
  by_cases hc : M / 2 ^ i % 2 = 1
  · simp [hc]
  · have : M / 2 ^ i % 2 = 0 := by omega
    simp [this]
set_option maxRecDepth 100000 in
set_option maxHeartbeats 4000000 in
theorem rank_any (A : Option Addr) (n c k : Nat) (x : List Nat × Nat) (w : World) (h : Ints .u16 w 0 A n c (u16L x.1)) (hr : Right x) (hn : n ≤ 30) (hk : k ≤ 100) :
    Calls Tryd.prog 127 #[.agg #[.slice A n c, .int .u8 x.2], .int .i64 k] w (RetV (.tuple #[.int .i64 (rankL x k).1, .string (strN (rankL x k).2)]) w) := by
  obtain ⟨S, t⟩ := x
  dsimp only at h ⊢
  have hlen : S.length = n := by rw [← u16L_len, h.len]
  have HRR := Lib.hid hr; clear hr
  by_cases hkn : k < n
  · obtain ⟨g, o, z, rfl, _, hgl, hz, hc⟩ := h.get hkn
    have HV := Lib.hid (show rankL (S, t) k = ((setStr (S.getD k 0)).length, setStr (S.getD k 0)) by unfold rankL; rw [if_pos (by dsimp only; omega)])
    have hz' := u16L_get hz
    have hM : S.getD k 0 < 4096 := HRR.out.2 _ (by dsimp only; rw [List.getD_eq_getElem?_getD, List.getElem?_eq_getElem (by omega)]; exact List.getElem_mem _)
    generalize S.getD k 0 = M at *
    subst hz'
    obtain ⟨sg, hsg⟩ : ∃ sg, (⟨#[35, 42, 48, 49, 50, 51, 52, 53, 54, 55, 56, 57]⟩ : ByteArray) = sg := ⟨_, rfl⟩
    have HSG := Lib.hid (show nb sg = sgn by rw [← hsg]; exact nb_signs)
    have sgz : 12 ≤ sg.size := by rw [← nb_len, HSG.out]; decide
    have hap := strN_append
    clear hz h
    have HLN := Lib.hid hlen; clear hlen
    have q0 : k < n := hkn
    go_enter Tryd.func127, Tryd.ntmps127
    go_wp2_with fail
    go_loop [7, 8, 20] (fun v _ t => ∃ i : Nat, i ≤ 12 ∧ t = .int .i64 i ∧ v = .string (strN (strTo M i))) (fun _ _ t => 12 - (intOf t).toNat)
    case atStart => exact ⟨0, by omega, rfl, rfl⟩
    case round =>
      obtain ⟨i, hi, rfl, rfl⟩ := hrel
      have hsl := strTo_len M i
      have hss : (strN (strTo M i)).size ≤ 12 := by rw [strN_size]; omega
      by_cases hil : i < 12
      · have d1 : decide ((i : Int) < 12) = true := decide_eq_true (by omega)
        have hbt := bit16 M i (by omega)
        have hx := ext_one (s := sg) (i := i) (by omega)
        rw [HSG.out] at hx
        obtain ⟨b, hb⟩ : ∃ b, sgn.getD i 0 = b := ⟨_, rfl⟩
        rw [hb] at hx
        have HBB := Lib.hid hb
        have hxs : (strN [b]).size ≤ 1 := by rw [strN_size]; simp
        have hdz : (i : Int) + 1 ≤ (sg.size : Int) := by omega
        clear hb
        cases hbit : M.testBit i
        · rw [hbit, if_neg (by simp)] at hbt
          have HN := Lib.hid (show strTo M (i + 1) = strTo M i by rw [strTo, hbit]; simp)
          clear hbit
          go_wp2_with fail
          go_round
          case rel => exact ⟨i + 1, by omega, by go_num, by rw [HN.out]⟩
          case measure => simp [intOf]; omega
        · rw [hbit, if_pos rfl] at hbt
          have HN := Lib.hid (show strTo M (i + 1) = strTo M i ++ [b] by rw [strTo, hbit, HBB.out]; rfl)
          clear hbit
          go_wp2_with fail
          go_round
          case rel => exact ⟨i + 1, by omega, by go_num, by rw [HN.out]⟩
          case measure => simp [intOf]; omega
      · obtain rfl : i = 12 := by omega
        rw [strTo_all] at hss ⊢
        obtain ⟨u, hu⟩ : ∃ u, strN (setStr M) = u := ⟨_, rfl⟩
        have HU := Lib.hid hu
        have HUZ := Lib.hid (show u.size = (setStr M).length by rw [← hu, strN_size])
        rw [hu] at hss ⊢
        clear hu
        go_wp2_with fail
        go_ret2
        exact ⟨by rw [HV.out, ← HUZ.out, HU.out]; rfl, gr_alloc (gr_refl _ _) _⟩
  · have e0 : ¬ k < S.length := by omega
    have q1 : decide (k < n) = false := decide_eq_false hkn
    have q2 : decide ((k : Int) < (n : Int)) = false := decide_eq_false (by omega)
    clear h
    by_cases hke : k = n
    · have q3 : ((k : Int) == (n : Int)) = true := by rw [beq_iff_eq]; omega
      have q3' : (k == n) = true := by rw [beq_iff_eq]; exact hke
      have HKE := Lib.hid (show k = S.length by omega)
      clear hke
      by_cases h46 : t = 46
      · subst h46
        have HV := Lib.hid (show rankL (S, 46) k = (100, []) by unfold rankL; rw [if_neg e0, if_pos ⟨HKE.out, rfl⟩])
        clear e0 hlen
        go_enter Tryd.func127, Tryd.ntmps127
        go_wp2_with fail
        go_ret2
        exact ⟨by rw [HV.out]; rfl, gr_alloc (gr_refl _ _) _⟩
      · obtain ⟨b1, b1'⟩ := beq_no h46
        by_cases h33 : t = 33
        · subst h33
          have HV := Lib.hid (show rankL (S, 33) k = (102, []) by unfold rankL; rw [if_neg e0, if_neg (by simp), if_pos ⟨HKE.out, rfl⟩])
          clear e0 hlen
          go_enter Tryd.func127, Tryd.ntmps127
          go_wp2_with fail
          go_ret2
          exact ⟨by rw [HV.out]; rfl, gr_alloc (gr_refl _ _) _⟩
        · obtain ⟨b2, b2'⟩ := beq_no h33
          have HV := Lib.hid (show rankL (S, t) k = (101, []) by unfold rankL; rw [if_neg e0, if_neg (by simp [h46]), if_neg (by simp [h33])])
          clear e0 hlen
          go_enter Tryd.func127, Tryd.ntmps127
          go_wp2_with fail
          go_ret2
          exact ⟨by rw [HV.out]; rfl, gr_alloc (gr_refl _ _) _⟩
    · have q3 : ((k : Int) == (n : Int)) = false := by rw [beq_eq_false_iff_ne]; omega
      have q3' : (k == n) = false := by rw [beq_eq_false_iff_ne]; exact hke
      have hkl : ¬ k = S.length := by omega
      have HV := Lib.hid (show rankL (S, t) k = (101, []) by unfold rankL; rw [if_neg e0, if_neg (fun h => hkl h.1), if_neg (fun h => hkl h.1)])
      clear e0 hlen hkl hke
      go_enter Tryd.func127, Tryd.ntmps127
      go_wp2_with fail
      go_ret2
      exact ⟨by rw [HV.out]; rfl, gr_alloc (gr_refl _ _) _⟩
theorem rank_bd (x : List Nat × Nat) (k : Nat) : (rankL x k).1 ≤ 102 ∧ ∀ b ∈ (rankL x k).2, b < 256 := by
  unfold rankL
  split
  · exact ⟨by have := setStr_len (x.1.getD k 0); dsimp only; omega, setStr_bd _⟩
  · split
    · simp
    · split <;> simp
def BfLoop (wb : World) (x y : List Nat × Nat) (N : Nat) (v : Value) (wr : World) : Prop := ∃ k : Nat, v = .int .i64 k ∧ k ≤ N + 1 ∧ befF x y (N + 1 - k) k = befL x y ∧ wb.grownBy wr none
set_option maxRecDepth 100000 in
set_option maxHeartbeats 4000000 in
theorem before_any (A A' : Option Addr) (n c n' c' : Nat) (x y : List Nat × Nat) (w : World) (h : Ints .u16 w 0 A n c (u16L x.1)) (h' : Ints .u16 w 0 A' n' c' (u16L y.1)) (hr : Right x) (hr' : Right y) (hn : n ≤ 30) (hn' : n' ≤ 30) :
    Calls Tryd.prog 98 #[.agg #[.slice A n c, .int .u8 x.2], .agg #[.slice A' n' c', .int .u8 y.2]] w (RetV (.int .i64 (befL x y)) w) := by
  have hl : x.1.length = n := by rw [← u16L_len, h.len]
  have hl' : y.1.length = n' := by rw [← u16L_len, h'.len]
  have HX := Lib.hid ((Blk.new w 95 #[.slice A n c, .int .u8 x.2]).alloc (.cells #[.slice A' n' c', .int .u8 y.2] 95))
  have HY := Lib.hid (show Blk ((w.alloc (.cells #[.slice A n c, .int .u8 x.2] 95)).alloc (.cells #[.slice A' n' c', .int .u8 y.2] 95)) (w.heap.size + 1) 95 #[.slice A' n' c', .int .u8 y.2] from by
    have h := Blk.new (w.alloc (.cells #[.slice A n c, .int .u8 x.2] 95)) 95 #[.slice A' n' c', .int .u8 y.2]
    simpa using h)
  have HG0 := Lib.hid (gr_alloc (gr_alloc (gr_refl w none) (.cells #[.slice A n c, .int .u8 x.2] 95)) (.cells #[.slice A' n' c', .int .u8 y.2] 95))
  have H := Lib.hid h; have H' := Lib.hid h'; have HR := Lib.hid hr; have HR' := Lib.hid hr'
  obtain ⟨N, hN⟩ : ∃ N, max n n' = N := ⟨_, rfl⟩
  have HBL := Lib.hid (show befL x y = befF x y (N + 1) 0 by unfold befL; rw [hl, hl', hN])
  have HNX := Lib.hid (show max x.1.length y.1.length = N by rw [hl, hl', hN])
  have hN30 : N ≤ 30 := by omega
  have hmx : max (n : Int) (n' : Int) = (N : Int) := by omega
  clear h h' hr hr' hl hl' hN
  go_enter Tryd.func98, Tryd.ntmps98
  go_wp2_with fail
  generalize (w.alloc (.cells #[.slice A n c, .int .u8 x.2] 95)).alloc (.cells #[.slice A' n' c', .int .u8 y.2] 95) = wb at *
  go_loopw [5, 6, 7, 8, 9, 10] (fun t _ _ _ _ _ wr => BfLoop wb x y N t wr) (fun t _ _ _ _ _ _ => N + 1 - (intOf t).toNat)
  case atStart => exact ⟨0, rfl, by omega, by rw [HBL.out]; rfl, gr_refl _ _⟩
  case round =>
    obtain ⟨k, rfl, hk, hbf, hg⟩ := hrel
    have HF := Lib.hid hbf; have HG := Lib.hid hg
    have cX := (HX.out.grown hg (by simp)).cell
    have cY := (HY.out.grown hg (by simp)).cell
    clear hbf hg
    by_cases hkN : k ≤ N
    · have d1 : decide ((k : Int) ≤ (N : Int)) = true := decide_eq_true (by omega)
      have d1' : decide (k ≤ N) = true := decide_eq_true hkN
      obtain ⟨f, hf⟩ : ∃ f, N + 1 - k = f + 1 := ⟨N - k, by omega⟩
      have HFF := Lib.hid hf
      obtain ⟨q, hq⟩ : ∃ q, rkC x y k = q := ⟨_, rfl⟩
      have HS := Lib.hid (show (if q = 0 then befF x y f (k + 1) else q) = befL x y by rw [← HF.out, hf, befF, if_pos (show k ≤ max x.1.length y.1.length by rw [HNX.out]; exact hkN), hq])
      obtain ⟨a, s1, hr1⟩ : ∃ a s1, rankL x k = (a, s1) := ⟨_, _, rfl⟩
      obtain ⟨b, s2, hr2⟩ : ∃ b s2, rankL y k = (b, s2) := ⟨_, _, rfl⟩
      have ha := (rank_bd x k).1
      have hb := (rank_bd y k).1
      have HN1 := Lib.hid (show nb (strN s1) = s1 from nb_strN (by have := (rank_bd x k).2; rw [hr1] at this; exact this))
      have HN2 := Lib.hid (show nb (strN s2) = s2 from nb_strN (by have := (rank_bd y k).2; rw [hr2] at this; exact this))
      rw [hr1] at ha
      rw [hr2] at hb
      dsimp only at ha hb
      have HQ := Lib.hid (show orI (cmpI a b) (cmpL (ints s1) (ints s2)) = q by
        rw [← hq]
        unfold rkC orI
        rw [hr1, hr2])
      have HR1 := Lib.hid hr1; have HR2 := Lib.hid hr2
      clear hf hq hr1 hr2
      by_cases hq0 : q = 0
      · have b1 : (q != 0) = false := by simp [hq0]
        have HN := Lib.hid (show befF x y f (k + 1) = befL x y by rw [← HS.out, if_pos hq0])
        clear hq0
        go_wp2_with (first
          | (refine wpl_load_all Tryd.patT rfl _ rfl _ rfl _ _ (HX.out.grown HG.out (by simp)) rfl ?_)
          | (refine wpl_load_all Tryd.patT rfl _ rfl _ rfl _ _ (HY.out.grown HG5.out (by simp)) rfl ?_)
          | (go_at_call 127
             ((with_reducible refine (rank_any A n c k x _ ((H.out.grown HG0.out (fun g e => by cases e)).grown HG.out (fun g e => by cases e)) HR.out hn (by omega)).mono ?_)
              rintro e w5 ⟨rfl, hg5⟩
              rw [HR1.out]
              have HG5 := Lib.hid (gr_none HG.out hg5)
              clear hg5))
          | (go_at_call 127
             ((with_reducible refine (rank_any A' n' c' k y _ ((H'.out.grown HG0.out (fun g e => by cases e)).grown HG5.out (fun g e => by cases e)) HR'.out hn' (by omega)).mono ?_)
              rintro e w6 ⟨rfl, hg6⟩
              rw [HR2.out]
              have HG6 := Lib.hid (gr_none HG5.out hg6)
              clear hg6))
          | (go_at_call 129; refine (cmpInt_any a b _).mono ?_; rintro e w' ⟨rfl, rfl⟩)
          | (go_at_call 123; refine (strCompare_any (strN s1) (strN s2) _).mono ?_; rintro e w' ⟨rfl, rfl⟩; rw [HN1.out, HN2.out])
          | (go_at_call 128
             refine (or_new _ _ _ rfl).mono ?_
             rintro e w7 ⟨rfl, hg7⟩
             rw [HQ.out]
             have HG7 := Lib.hid (gr_none HG6.out hg7)
             clear hg7)
          | fail)
        go_roundw
        case rel => exact ⟨k + 1, by go_num, by omega, by rw [show N + 1 - (k + 1) = f by have := HFF.out; omega]; exact HN.out, HG7.out⟩
        case measure => simp [intOf]; omega
      · have b1 : (q != 0) = true := by simpa using hq0
        have HN := Lib.hid (show befL x y = q by rw [← HS.out, if_neg hq0])
        clear hq0
        go_wp2_with (first
          | (refine wpl_load_all Tryd.patT rfl _ rfl _ rfl _ _ (HX.out.grown HG.out (by simp)) rfl ?_)
          | (refine wpl_load_all Tryd.patT rfl _ rfl _ rfl _ _ (HY.out.grown HG5.out (by simp)) rfl ?_)
          | (go_at_call 127
             ((with_reducible refine (rank_any A n c k x _ ((H.out.grown HG0.out (fun g e => by cases e)).grown HG.out (fun g e => by cases e)) HR.out hn (by omega)).mono ?_)
              rintro e w5 ⟨rfl, hg5⟩
              rw [HR1.out]
              have HG5 := Lib.hid (gr_none HG.out hg5)
              clear hg5))
          | (go_at_call 127
             ((with_reducible refine (rank_any A' n' c' k y _ ((H'.out.grown HG0.out (fun g e => by cases e)).grown HG5.out (fun g e => by cases e)) HR'.out hn' (by omega)).mono ?_)
              rintro e w6 ⟨rfl, hg6⟩
              rw [HR2.out]
              have HG6 := Lib.hid (gr_none HG5.out hg6)
              clear hg6))
          | (go_at_call 129; refine (cmpInt_any a b _).mono ?_; rintro e w' ⟨rfl, rfl⟩)
          | (go_at_call 123; refine (strCompare_any (strN s1) (strN s2) _).mono ?_; rintro e w' ⟨rfl, rfl⟩; rw [HN1.out, HN2.out])
          | (go_at_call 128
             refine (or_new _ _ _ rfl).mono ?_
             rintro e w7 ⟨rfl, hg7⟩
             rw [HQ.out]
             have HG7 := Lib.hid (gr_none HG6.out hg7)
             clear hg7)
          | fail)
        go_ret
        exact ⟨by rw [HN.out]; rfl, gr_none HG0.out HG7.out⟩
    · obtain rfl : k = N + 1 := by omega
      have d1 : decide (((N + 1 : Nat) : Int) ≤ (N : Int)) = false := decide_eq_false (by omega)
      have d1' : decide ((N : Int) + 1 ≤ (N : Int)) = false := decide_eq_false (by omega)
      have HN := Lib.hid (show befL x y = 0 by rw [← HF.out, Nat.sub_self]; rfl)
      go_wp2_with fail
      go_ret
      exact ⟨by rw [HN.out]; rfl, gr_none HG0.out HG.out⟩
def beR (l1 l2 : List Nat) : Int × Int := (patX l1).elim (0, patF l1) (fun P => (patX l2).elim (0, patF l2) (fun Q => (befL P Q, 0)))
def maR (l d : List Nat) : Bool × Int := (patX l).elim (false, patF l) (fun P => if dialOk d then (matchL P d, 0) else (false, 3))
set_option maxHeartbeats 2000000 in
theorem checkPattern_any (s : ByteArray) (w : World) : Calls Tryd.prog 51 #[.string s] w (RetV (.int .i64 (patF (nb s))) w) := by
  go_enter Tryd.func51, Tryd.ntmps51
  go_wp2_with fail
  refine (read_all s _).mono ?_
  rintro e w1 ⟨v1, rfl, hv1, hg1⟩
  have HG := Lib.hid hg1; clear hg1
  rcases hv1 with ⟨x, A, n, c, h1, rfl, h3, h4⟩ | ⟨h1, rfl⟩
  · have HV := Lib.hid (patF_some h1)
    clear h1 h3
    go_wp2_with fail
    go_ret
    exact ⟨by rw [HV.out]; rfl, gr_alloc HG.out _⟩
  · clear h1
    go_wp2_with fail
    go_ret
    exact ⟨rfl, gr_alloc HG.out _⟩
set_option maxRecDepth 100000 in
set_option maxHeartbeats 4000000 in
theorem beforeFn_any (s t : ByteArray) (w : World) :
    Calls Tryd.prog 48 #[.string s, .string t] w (RetV (.tuple #[.int .i64 (beR (nb s) (nb t)).1, .int .i64 (beR (nb s) (nb t)).2]) w) := by
  obtain ⟨l, hl⟩ : ∃ l, nb s = l := ⟨_, rfl⟩
  obtain ⟨m, hm⟩ : ∃ m, nb t = m := ⟨_, rfl⟩
  have HL := Lib.hid hl
  have HM := Lib.hid hm
  rw [hl, hm]; clear hl hm
  go_enter Tryd.func48, Tryd.ntmps48
  go_wp2_with fail
  refine (read_all s _).mono ?_
  rintro e w1 ⟨v1, rfl, hv1, hg1⟩
  rw [HL.out] at hv1
  have HG := Lib.hid hg1
  rcases hv1 with ⟨x, A, n, c, h1, rfl, h3, h4⟩ | ⟨h1, rfl⟩
  · have HP := Lib.hid (show PatOk w1 ⟨A, n, c, x⟩ from ⟨h3.lower (Nat.zero_le _), h4, patX_right h1⟩)
    have HB := Lib.hid (Blk.new w1 95 #[.slice A n c, .int .u8 x.2])
    have HX := Lib.hid h1
    clear h1 h3 hg1
    go_wp2_with fail
    refine (read_all t _).mono ?_
    rintro e w2 ⟨v2, rfl, hv2, hg2⟩
    rw [HM.out] at hv2
    have HG2 := Lib.hid (gr_none (gr_alloc HG.out _) hg2)
    have HP1 := Lib.hid (HP.out.grown (gr_none (gr_alloc (gr_refl w1 none) _) hg2) rfl)
    have HB1 := Lib.hid (HB.out.grown hg2 (by simp))
    clear hg2
    rcases hv2 with ⟨y, A', n', c', h1, rfl, h3, h5⟩ | ⟨h1, rfl⟩
    · have HR := Lib.hid (show beR l m = (befL x y, 0) by unfold beR; rw [HX.out, h1]; rfl)
      have HP2 := Lib.hid (show PatOk w2 ⟨A', n', c', y⟩ from ⟨h3.lower (Nat.zero_le _), h5, patX_right h1⟩)
      have HB2 := Lib.hid (Blk.new w2 95 #[.slice A' n' c', .int .u8 y.2])
      clear h1 h3
      go_wp2_with (first
        | (refine wpl_load_all Tryd.patT rfl _ rfl _ rfl _ _ HB2.out rfl ?_)
        | (refine wpl_load_all Tryd.patT rfl _ rfl _ rfl _ _ (HB1.out.alloc _) rfl ?_)
        | (go_at_call 98
           refine (before_any A A' n c n' c' x y _ (HP1.out.1.alloc _) (HP2.out.1.alloc _) HP1.out.2.2 HP2.out.2.2 h4 h5).mono ?_
           rintro e w3 ⟨rfl, hg3⟩
           have HG3 := Lib.hid (gr_none (gr_alloc HG2.out _) hg3)
           clear hg3)
        | fail)
      go_ret2
      exact ⟨by rw [HR.out]; rfl, HG3.out⟩
    · have hf := patF_none h1
      have HR := Lib.hid (show beR l m = (0, patF m) by unfold beR; rw [HX.out, h1]; rfl)
      generalize patF m = z at *
      have b1 : (z != 0) = true := by rw [bne_iff_ne]; omega
      clear h1
      go_wp2_with fail
      go_ret2
      exact ⟨by rw [HR.out]; rfl, gr_alloc HG2.out _⟩
  · have hf := patF_none h1
    have HR := Lib.hid (show beR l m = (0, patF l) by unfold beR; rw [h1]; rfl)
    generalize patF l = z at *
    have b1 : (z != 0) = true := by rw [bne_iff_ne]; omega
    clear h1 hg1
    go_wp2_with fail
    go_ret2
    exact ⟨by rw [HR.out]; rfl, gr_alloc HG.out _⟩
set_option maxRecDepth 100000 in
set_option maxHeartbeats 4000000 in
theorem matches_any (s d : ByteArray) (w : World) (hd : d.size ≤ 1000000) :
    Calls Tryd.prog 47 #[.string s, .string d] w (RetV (.tuple #[.bool (maR (nb s) (nb d)).1, .int .i64 (maR (nb s) (nb d)).2]) w) := by
  obtain ⟨l, hl⟩ : ∃ l, nb s = l := ⟨_, rfl⟩
  have HL := Lib.hid hl
  rw [hl]; clear hl
  go_enter Tryd.func47, Tryd.ntmps47
  go_wp2_with fail
  refine (read_all s _).mono ?_
  rintro e w1 ⟨v1, rfl, hv1, hg1⟩
  rw [HL.out] at hv1
  have HG := Lib.hid hg1
  rcases hv1 with ⟨x, A, n, c, h1, rfl, h3, h4⟩ | ⟨h1, rfl⟩
  · have HI := Lib.hid (h3.lower (Nat.zero_le _))
    have HRT := Lib.hid (patX_right h1)
    have HB := Lib.hid (Blk.new w1 95 #[.slice A n c, .int .u8 x.2])
    have HX := Lib.hid h1
    obtain ⟨B, hB⟩ : ∃ B, dialOk (nb d) = B := ⟨_, rfl⟩
    have HBB := Lib.hid hB
    clear h1 h3 hg1 hB
    cases B
    · have HR := Lib.hid (show maR l (nb d) = (false, 3) by unfold maR; rw [HX.out]; simp [HBB.out])
      go_wp2_with (first
        | (go_at_call 96; refine (isDialled_any d _ hd).mono ?_; rintro e w2 ⟨rfl, hg2⟩; rw [HBB.out]; have HG2 := Lib.hid (gr_none (gr_alloc HG.out _) hg2); clear hg2)
        | fail)
      go_ret2
      exact ⟨by rw [HR.out]; rfl, HG2.out⟩
    · have HR := Lib.hid (show maR l (nb d) = (matchL x (nb d), 0) by unfold maR; rw [HX.out]; simp [HBB.out])
      have hb := HBB.out
      unfold dialOk at hb
      simp only [Bool.and_eq_true, decide_eq_true_eq, List.all_eq_true] at hb
      have hd30 : d.size ≤ 30 := by rw [← nb_len]; exact hb.1.2
      have HSG := Lib.hid hb.2
      clear hb
      go_wp2_with (first
        | (go_at_call 96; refine (isDialled_any d _ hd).mono ?_; rintro e w2 ⟨rfl, hg2⟩; rw [HBB.out]; have HB2 := Lib.hid (HB.out.grown hg2 (by simp)); have HI2 := Lib.hid ((HI.out.alloc (.cells #[.slice A n c, .int .u8 x.2] 95)).grown hg2 (fun g e => by cases e)); have HG2 := Lib.hid (gr_none (gr_alloc HG.out _) hg2); clear hg2)
        | (refine wpl_load_all Tryd.patT rfl _ rfl _ rfl _ _ HB2.out rfl ?_)
        | (go_at_call 97
           refine (begins_any A n c x d _ HI2.out HRT.out h4 hd30 HSG.out).mono ?_
           rintro e w3 ⟨v3, rfl, ⟨B3, rfl⟩, hg3⟩
           have HG3 := Lib.hid (gr_none HG2.out hg3)
           clear hg3)
        | fail)
      go_ret2
      exact ⟨by rw [HR.out]; rfl, HG3.out⟩
  · have hf := patF_none h1
    have HR := Lib.hid (show maR l (nb d) = (false, patF l) by unfold maR; rw [h1]; rfl)
    generalize patF l = z at *
    have b1 : (z != 0) = true := by rw [bne_iff_ne]; omega
    clear h1 hg1
    go_wp2_with fail
    go_ret2
    exact ⟨by rw [HR.out]; rfl, gr_alloc HG.out _⟩
end Go.Proofs.YtkkpioinccoinaaDoor

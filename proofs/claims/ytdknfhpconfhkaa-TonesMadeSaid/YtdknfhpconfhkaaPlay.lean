/- Contracts of PlayOut, the program's and the document's. Conditions: none. -/
import Derived.Test.YtdknfhpconfhkaaArr
import Derived.Test.YtdknfhpconfhkaaSamples3
import Derived.Test.YtdknfhpconfhkaaPktRead
import Derived.Laws.BitsLemmas
namespace Go.Proofs.Ytdknfhpconfhkaa
open Go.RowKit

theorem mask32 (x : Int) : bits .and .i64 x 4294967295 = x % 4294967296 := by
  have e : (BitVec.ofInt 64 x).toNat = (x % 18446744073709551616).toNat := by simp [BitVec.toNat_ofInt]
  have h1 : (x % 18446744073709551616).toNat &&& 4294967295 = (x % 18446744073709551616).toNat % 4294967296 := Nat.and_two_pow_sub_one_eq_mod _ 32
  have h2 : bits .and .i64 x 4294967295 = IntKind.i64.wrap (((BitVec.ofInt 64 x).toNat &&& 4294967295 : Nat) : Int) := by
    simp only [bits, BitVec.toNat_and]
    rfl
  rw [h2, e, h1, IntKind.wrap_i64]
  omega
theorem mask16 (x : Int) : bits .and .i64 x 65535 = x % 65536 := by
  have e : (BitVec.ofInt 64 x).toNat = (x % 18446744073709551616).toNat := by simp [BitVec.toNat_ofInt]
  have h1 : (x % 18446744073709551616).toNat &&& 65535 = (x % 18446744073709551616).toNat % 65536 := Nat.and_two_pow_sub_one_eq_mod _ 16
  have h2 : bits .and .i64 x 65535 = IntKind.i64.wrap (((BitVec.ofInt 64 x).toNat &&& 65535 : Nat) : Int) := by
    simp only [bits, BitVec.toNat_and]
    rfl
  rw [h2, e, h1, IntKind.wrap_i64]
  omega

/-- The difference of two times, from -2^31 to 2^31 - 1. -/
def tAp (a b : Int) : Int := if 2147483648 ≤ (a - b) % 4294967296 then (a - b) % 4294967296 - 4294967296 else (a - b) % 4294967296
theorem tAp_bd (a b : Int) : -2147483648 ≤ tAp a b ∧ tAp a b < 2147483648 := by unfold tAp; split <;> omega

set_option maxHeartbeats 1000000 in
theorem apart_any (a b : Int) (w : World) (a0 : 0 ≤ a) (a1 : a ≤ 4294967295) (b0 : 0 ≤ b) (b1 : b ≤ 4294967295) : Calls Try.prog 72 #[.int .i64 a, .int .i64 b] w (Same (.int .i64 (tAp a b)) w) := by
  have hm := mask32 (a - b)
  obtain ⟨m, hm'⟩ : ∃ m, (a - b) % 4294967296 = m := ⟨_, rfl⟩
  rw [hm'] at hm
  have m0 : 0 ≤ m := by omega
  have m1 : m < 4294967296 := by omega
  have HM := Lib.hid hm'; clear hm'
  go_enter Try.func72, Try.ntmps72
  go_wp2
  all_goals
    go_ret
    exact ⟨ret_i (by unfold tAp; rw [HM.out]; split <;> omega), rfl⟩
set_option maxHeartbeats 1000000 in
theorem timeApart_any (a b : Int) (w : World) (a0 : 0 ≤ a) (a1 : a ≤ 4294967295) (b0 : 0 ≤ b) (b1 : b ≤ 4294967295) : Calls Try.prog 74 #[.int .i64 a, .int .i64 b] w (Same (.int .i64 (tAp a b)) w) := by
  go_enter Try.func74, Try.ntmps74
  go_wp2
  go_ret
  exact ⟨ret_i (by unfold tAp wrap64 wrap32; split <;> omega), rfl⟩

theorem apart_as (a b F : Int) (w : World) (a0 : 0 ≤ a) (a1 : a ≤ 4294967295) (b0 : 0 ≤ b) (b1 : b ≤ 4294967295) (h : tAp a b = F) : Calls Try.prog 72 #[.int .i64 a, .int .i64 b] w (Same (.int .i64 F) w) := by
  subst h; exact apart_any a b w a0 a1 b0 b1
theorem timeApart_as (a b F : Int) (w : World) (a0 : 0 ≤ a) (a1 : a ≤ 4294967295) (b0 : 0 ≤ b) (b1 : b ≤ 4294967295) (h : tAp a b = F) : Calls Try.prog 74 #[.int .i64 a, .int .i64 b] w (Same (.int .i64 F) w) := by
  subst h; exact timeApart_any a b w a0 a1 b0 b1
theorem quiet0 {P : Program} {f : FuncId} {args : Array Value} {w : World} {n : Nat} {v : Value} (h : Calls P f args (w.drewN n) (Same v (w.drewN n))) :
    Calls P f args (w.drewN n) fun e w'' => e = .returned v ∧ ∃ m, w'' = w.drewN m :=
  h.mono fun _ _ ⟨he, hm⟩ => ⟨he, n, hm.symm⟩
theorem quiet1 {P : Program} {f : FuncId} {args : Array Value} {w : World} {a n : Nat} {v : Value} (h : Calls P f args (w.drewN (a + n)) (Same v (w.drewN (a + n)))) :
    Calls P f args (w.drewN (a + n)) fun e w'' => e = .returned v ∧ ∃ m, w'' = w.drewN (a + m) :=
  h.mono fun _ _ ⟨he, hm⟩ => ⟨he, n, hm.symm⟩

theorem floor_neg {a b : Int} (hb : 1 ≤ b) (h : a.tmod b < 0) : a.tdiv b - 1 = a / b := by
  have e := Int.tmod_add_mul_tdiv a b
  have l := Int.lt_tmod_of_pos a (b := b) (by omega)
  have h1 : a = (b + a.tmod b) + b * (a.tdiv b - 1) := by rw [Int.mul_sub, Int.mul_one]; omega
  have h2 : (b + a.tmod b) / b = 0 := Int.ediv_eq_zero_of_lt (by omega) (by omega)
  have h3 : ((b + a.tmod b) + b * (a.tdiv b - 1)) / b = a.tdiv b - 1 := by rw [Int.add_mul_ediv_left _ _ (by omega), h2]; omega
  rw [← h1] at h3
  exact h3.symm
theorem floor_pos {a b : Int} (hb : 1 ≤ b) (h : ¬ a.tmod b < 0) : a.tdiv b = a / b := by
  have e := Int.tmod_add_mul_tdiv a b
  have l := Int.tmod_lt_of_pos a (b := b) (by omega)
  have h2 : (a.tmod b) / b = 0 := Int.ediv_eq_zero_of_lt (by omega) (by omega)
  have h3 : (a.tmod b + b * a.tdiv b) / b = a.tdiv b := by rw [Int.add_mul_ediv_left _ _ (by omega), h2]; omega
  rw [e] at h3
  exact h3.symm
theorem floor_bd {a b : Int} (hb : 1 ≤ b) : (0 ≤ a → 0 ≤ a / b ∧ a / b ≤ a) ∧ (a < 0 → a ≤ a / b ∧ a / b ≤ -1) := by
  refine ⟨fun h => ⟨Int.ediv_nonneg h (by omega), Int.ediv_le_self _ h⟩, fun h => ⟨?_, ?_⟩⟩
  · rw [Int.le_ediv_iff_mul_le (by omega)]
    have := Int.mul_le_mul_of_nonpos_left (a := a) (show a ≤ 0 by omega) (show 1 ≤ b by omega)
    omega
  · have := Int.ediv_neg_of_neg_of_pos h (show 0 < b by omega)
    omega

set_option maxHeartbeats 1000000 in
theorem floor_any (a b : Int) (w : World) (h0 : -9223372036854775808 ≤ a) (h1 : a ≤ 9223372036854775807) (b0 : 1 ≤ b) : Calls Try.prog 75 #[.int .i64 a, .int .i64 b] w (Same (.int .i64 (a / b)) w) := by
  have hb0 : (b == 0) = false := by rw [beq_eq_false_iff_ne]; omega
  have hbd := floor_bd (a := a) b0
  have HB := Lib.hid hbd; clear hbd
  by_cases h : a.tmod b < 0
  · have e := floor_neg b0 h
    have ha : a < 0 := by
      rcases Int.lt_or_le a 0 with h2 | h2
      · exact h2
      · have := Int.tmod_nonneg b h2; omega
    have hb := HB.out.2 ha
    have t1 : -9223372036854775807 ≤ a.tdiv b := by omega
    have t2 : a.tdiv b ≤ 0 := by omega
    have HE := Lib.hid e; clear e hb
    go_enter Try.func75, Try.ntmps75
    go_wp2
    go_ret
    exact ⟨ret_i (by rw [← HE.out]), rfl⟩
  · have e := floor_pos b0 h
    have hd : decide (a.tmod b < 0) = false := by simpa using h
    have HE := Lib.hid e; clear e
    go_enter Try.func75, Try.ntmps75
    go_wp2
    go_ret
    exact ⟨ret_i (by rw [← HE.out]), rfl⟩

/-! What PlayOut computes. -/
def playPut (st : List Int × List Bool) (i b : Int) : List Int × List Bool :=
  if 0 ≤ i ∧ i < st.1.length ∧ st.2[i.toNat]? = some false then (st.1.set i.toNat (expB b), st.2.set i.toNat true) else st
def payTo (d : Int) (pay : List Int) (st : List Int × List Bool) : Nat → List Int × List Bool
  | 0 => st
  | k + 1 => playPut (payTo d pay st k) (d + k) (pay.getD k 0)
def playArr (l : List ArrV) (delay : Int) (st : List Int × List Bool) (i : Nat) : List Int × List Bool :=
  match l[i]?, l[0]? with
  | some a, some f => if f.at_ + delay + tAp a.tm f.tm / 8 < a.at_ then st else payTo (tAp a.tm f.tm) a.pay st a.pay.length
  | _, _ => st
def arrTo (l : List ArrV) (delay : Int) (st : List Int × List Bool) : Nat → List Int × List Bool
  | 0 => st
  | i + 1 => playArr l delay (arrTo l delay st i) i
def halfTo (there : List Bool) (out : List Int) : Nat → List Int
  | 0 => out
  | i + 1 => if there[i]? = some false ∧ 160 ≤ i then (halfTo there out i).set i (wrap64 (((halfTo there out i).getD (i - 160) 0).tdiv 2)) else halfTo there out i
def playSt (l : List ArrV) (delay : Int) (N : Nat) : List Int × List Bool := arrTo l delay (List.replicate N 0, List.replicate N false) l.length
def playOut (l : List ArrV) (delay : Int) (N : Nat) : List Int := halfTo (playSt l delay N).2 (playSt l delay N).1 N
def playFault (l : List ArrV) (delay long : Int) : Int := if arrFault l = 0 then (if inB delay 0 10000 && inB long 0 2500 then 0 else 1) else arrFault l

theorem arr_ok {l : List ArrV} (h : arrFault l = 0) : l.length ≤ 2000 ∧ ∀ a ∈ l, (0 ≤ a.at_ ∧ a.at_ ≤ 345686399999) ∧ (0 ≤ a.sq ∧ a.sq ≤ 65535) ∧ (0 ≤ a.tm ∧ a.tm ≤ 4294967295) ∧ a.n ≤ 1000 := by
  unfold arrFault at h
  split at h
  · omega
  · refine ⟨by omega, fun a ha => ?_⟩
    obtain ⟨i, hi, rfl⟩ := List.getElem_of_mem ha
    have h1 := firstNZ_all h i hi
    have h2 : l[i]? = some l[i] := List.getElem?_eq_getElem hi
    have h3 : l[0]? = some l[0] := List.getElem?_eq_getElem (by omega)
    unfold arrAt at h1
    rw [h2, h3] at h1
    simp only at h1
    split at h1
    · rename_i hm
      split at h1
      · rename_i hp
        unfold pktFault at hp
        split at hp
        · rename_i hb
          split at hp
          · omega
          · simp [inB] at hb
            simp [isMom, inB] at hm
            omega
        · omega
      · rename_i hp; exact absurd h1 hp
    · omega

theorem playPut_len (st : List Int × List Bool) (i b : Int) : (playPut st i b).1.length = st.1.length ∧ (playPut st i b).2.length = st.2.length := by
  unfold playPut; split <;> simp
theorem payTo_len (d : Int) (pay : List Int) (st : List Int × List Bool) (k : Nat) : (payTo d pay st k).1.length = st.1.length ∧ (payTo d pay st k).2.length = st.2.length := by
  induction k with
  | zero => simp [payTo]
  | succ k ih => have := playPut_len (payTo d pay st k) (d + k) (pay.getD k 0); simp only [payTo]; omega
theorem playArr_len (l : List ArrV) (delay : Int) (st : List Int × List Bool) (i : Nat) : (playArr l delay st i).1.length = st.1.length ∧ (playArr l delay st i).2.length = st.2.length := by
  unfold playArr
  split
  · split
    · simp
    · exact payTo_len _ _ _ _
  · simp
theorem arrTo_len (l : List ArrV) (delay : Int) (st : List Int × List Bool) (k : Nat) : (arrTo l delay st k).1.length = st.1.length ∧ (arrTo l delay st k).2.length = st.2.length := by
  induction k with
  | zero => simp [arrTo]
  | succ k ih => have := playArr_len l delay (arrTo l delay st k) k; simp only [arrTo]; omega
theorem halfTo_len (there : List Bool) (out : List Int) (k : Nat) : (halfTo there out k).length = out.length := by
  induction k with
  | zero => simp [halfTo]
  | succ k ih => simp only [halfTo]; split <;> simp [ih]

theorem Try.boolT : ElemT Try.prog 101 4 1 1 (.bool false) := elemT_of Try.underlying101 (by kernel_rfl) rfl (by decide)

/-- The two rows of PlayOut: the samples, and which of them are there. -/
def PRel (w : World) (gO gT N : Nat) (st : List Int × List Bool) (wr : World) : Prop :=
  w.grownBy wr none ∧ Own wr gO 3 1 (some ⟨gO, 0, none⟩) N N (st.1.map (Value.int .i64)) ∧ Own wr gT 4 1 (some ⟨gT, 0, none⟩) N N (st.2.map Value.bool)
section
variable {w wr : World} {gO gT N : Nat} {st : List Int × List Bool}
theorem PRel.len (h : PRel w gO gT N st wr) : st.1.length = N ∧ st.2.length = N := ⟨by simpa using h.2.1.len, by simpa using h.2.2.len⟩
theorem PRel.alloc (h : PRel w gO gT N st wr) (o : Obj) : PRel w gO gT N st (wr.alloc o) := ⟨gr_alloc h.1 o, h.2.1.alloc o, h.2.2.alloc o⟩
theorem PRel.drewN (h : PRel w gO gT N st wr) (k : Nat) : PRel w gO gT N st (wr.drewN k) := ⟨gr_drewN h.1 k, h.2.1.drewN k, h.2.2.drewN k⟩
theorem PRel.getO (h : PRel w gO gT N st wr) {q : Nat} (hq : q < N) : ∃ x, st.1[q]? = some x ∧ wr.cell? ⟨gO, q, none⟩ = some (.int .i64 x) ∧ wr.frozen? ⟨gO, q, none⟩ = false := by
  have hl := h.len.1
  refine ⟨st.1[q], List.getElem?_eq_getElem (by omega), ?_, h.2.1.frozen q⟩
  rw [h.2.1.cell (by omega), List.getElem?_map, List.getElem?_eq_getElem (by omega)]
  rfl
theorem PRel.getT (h : PRel w gO gT N st wr) {q : Nat} (hq : q < N) : ∃ x, st.2[q]? = some x ∧ wr.cell? ⟨gT, q, none⟩ = some (.bool x) ∧ wr.frozen? ⟨gT, q, none⟩ = false := by
  have hl := h.len.2
  refine ⟨st.2[q], List.getElem?_eq_getElem (by omega), ?_, h.2.2.frozen q⟩
  rw [h.2.2.cell (by omega), List.getElem?_map, List.getElem?_eq_getElem (by omega)]
  rfl
theorem PRel.setO (h : PRel w gO gT N st wr) (hO : w.heap.size ≤ gO) (hne : gO ≠ gT) (q : Nat) (x : Int) : PRel w gO gT N (st.1.set q x, st.2) (wr.setCell ⟨gO, q, none⟩ (.int .i64 x)) := by
  refine ⟨gr_setCell h.1 (.inr hO) _, ?_, h.2.2.far (by simp [blkOf]; exact fun e => hne e.symm) _⟩
  have := h.2.1.stored q (.int .i64 x)
  rw [← List.map_set] at this
  exact this
theorem PRel.setT (h : PRel w gO gT N st wr) (hT : w.heap.size ≤ gT) (hne : gO ≠ gT) (q : Nat) (x : Bool) : PRel w gO gT N (st.1, st.2.set q x) (wr.setCell ⟨gT, q, none⟩ (.bool x)) := by
  refine ⟨gr_setCell h.1 (.inr hT) _, h.2.1.far (by simp [blkOf]; exact fun e => hne e) _, ?_⟩
  have := h.2.2.stored q (.bool x)
  rw [← List.map_set] at this
  exact this
theorem PRel.new (w : World) (N : Nat) (h : N ≤ 1000000000) : PRel w w.heap.size (w.heap.size + 1) N (List.replicate N 0, List.replicate N false) ((w.alloc (.cells (Array.replicate N (.int .i64 0)) 3)).alloc (.cells (Array.replicate N (.bool false)) 4)) := by
  refine ⟨gr_alloc (gr_alloc (gr_refl _ _) _) _, ?_, ?_⟩
  · have := (Own.made w 3 (.int .i64 0) N (by unfold maxLen; omega)).alloc (.cells (Array.replicate N (.bool false)) 4)
    rw [List.map_replicate]; exact this
  · have := Own.made' (w.alloc (.cells (Array.replicate N (.int .i64 0)) 3)) 4 (.bool false) N (w.heap.size + 1) (by unfold maxLen; omega) (by simp)
    rw [List.map_replicate]; exact this
end
theorem playPut_no {st : List Int × List Bool} {i b : Int} {N : Nat} (hl : st.1.length = N) (h : i < 0 ∨ (N : Int) ≤ i) : playPut st i b = st := by
  unfold playPut; rw [if_neg (by omega)]
theorem playPut_there {st : List Int × List Bool} {b : Int} {q : Nat} (h : st.2[q]? = some true) : playPut st q b = st := by
  unfold playPut; rw [if_neg (by simp [h])]
theorem playPut_new {st : List Int × List Bool} {b : Int} {q : Nat} (hl : q < st.1.length) (h : st.2[q]? = some false) : playPut st q b = (st.1.set q (expB b), st.2.set q true) := by
  unfold playPut; rw [if_pos ⟨by omega, by omega, by simpa using h⟩]; simp

theorem playArr_late {l : List ArrV} {delay F : Int} {st : List Int × List Bool} {i : Nat} {z f : ArrV} (hz : l[i]? = some z) (hf : l[0]? = some f) (hF : tAp z.tm f.tm = F) (h : f.at_ + delay + F / 8 < z.at_) : playArr l delay st i = st := by
  unfold playArr; rw [hz, hf]; subst hF; exact if_pos h
theorem playArr_on {l : List ArrV} {delay F : Int} {st : List Int × List Bool} {i : Nat} {z f : ArrV} (hz : l[i]? = some z) (hf : l[0]? = some f) (hF : tAp z.tm f.tm = F) (h : ¬ f.at_ + delay + F / 8 < z.at_) : playArr l delay st i = payTo F z.pay st z.pay.length := by
  unfold playArr; rw [hz, hf]; subst hF; exact if_neg h
theorem payTo_succ {d : Int} {pay : List Int} {st st2 : List Int × List Bool} {k : Nat} {b : Int} (hb : pay[k]? = some b) (h : payTo d pay st k = st2) : payTo d pay st (k + 1) = playPut st2 (d + k) b := by
  rw [payTo, h, List.getD_eq_getElem?_getD, hb]; rfl
theorem halfTo_no {there : List Bool} {out : List Int} {i : Nat} (h : there[i]? = some true ∨ i < 160) : halfTo there out (i + 1) = halfTo there out i := by
  rw [halfTo, if_neg]
  rintro ⟨h1, h2⟩
  rcases h with h | h
  · rw [h1] at h; cases h
  · omega
theorem halfTo_yes {there : List Bool} {out : List Int} {i : Nat} {x : Int} (h : there[i]? = some false) (hi : 160 ≤ i) (hx : (halfTo there out i)[i - 160]? = some x) : halfTo there out (i + 1) = (halfTo there out i).set i (wrap64 (x.tdiv 2)) := by
  rw [halfTo, if_pos ⟨h, hi⟩, List.getD_eq_getElem?_getD, hx]; rfl
theorem halfTo_zero (N k : Nat) : halfTo (List.replicate N false) (List.replicate N 0) k = List.replicate N 0 := by
  induction k with
  | zero => rfl
  | succ k ih =>
    rw [halfTo, ih]
    split
    · rename_i h
      have e : (List.replicate N (0 : Int)).getD (k - 160) 0 = 0 := by
        rw [List.getD_eq_getElem?_getD, List.getElem?_replicate]; split <;> rfl
      rw [e, show wrap64 ((0 : Int).tdiv 2) = 0 from by unfold wrap64; simp]
      apply List.ext_getElem?
      intro j
      rw [List.getElem?_set]
      split
      · rename_i hkj
        subst hkj
        by_cases hk : k < N <;> simp [hk]
      · rfl
    · rfl
theorem playOut_nil (delay : Int) (N : Nat) : playOut [] delay N = List.replicate N 0 := halfTo_zero N N

set_option maxRecDepth 100000 in
set_option maxHeartbeats 8000000 in
theorem playOut_ok (lo : Nat) (A : Option Addr) (n c : Nat) (l : List ArrV) (delay : Int) (long : Nat) (w : World) (h : Arrs w lo A n c l) (hn : n ≤ 1000000000000) (hf : arrFault l = 0) (d0 : 0 ≤ delay) (d1 : delay ≤ 10000) (l1 : long ≤ 2500) :
    Calls Try.prog 34 #[.slice A n c, .int .i64 delay, .int .i64 long] w (RetP (IsOutErr .i64 w.heap.size (playOut l delay (8 * long)) 0) w) := by
  have H := Lib.hid h; clear h
  have HOK := Lib.hid (arr_ok hf)
  have hfb : (arrFault l != 0) = false := by simpa using hf
  have HF := Lib.hid hf; clear hf
  have hd : inB delay 0 10000 = true := by simp [inB, d0, d1]
  have hl : inB (long : Int) 0 2500 = true := by simp [inB]; omega
  obtain ⟨N, hN⟩ : ∃ N : Nat, 8 * long = N := ⟨_, rfl⟩
  have hN1 : N ≤ 20000 := by omega
  have hN' : 8 * (long : Int) = (N : Int) := by omega
  rw [hN]
  clear hN
  have hmi := run_make1 Try.intT N rfl (by omega) (by omega)
  have hmb := run_make1 Try.boolT N rfl (by omega) (by omega)
  go_enter Try.func34, Try.ntmps34
  go_wp2_with fail
  refine (checkArrivals_any lo _ _ _ l _ H.out hn).mono ?_
  rintro e w1 ⟨rfl, hg1⟩
  have z1 := hg1.size
  replace H := Lib.hid (H.out.grown hg1 (fun g e => by cases e))
  have HG1 := Lib.hid hg1; clear hg1
  go_wp2_with (first
    | (go_at_call 67; refine (within_any _ _ _ _).mono ?_; rintro e w' ⟨rfl, rfl⟩)
    | fail)
  clear hmi hmb hN'
  go_loopw [12, 13, 14, 15, 16, 39] (fun _ _ _ _ _ t wr => ∃ i : Nat, i ≤ n ∧ t = .int .i64 i ∧ PRel w1 w1.heap.size (w1.heap.size + 1) N (arrTo l delay (List.replicate N 0, List.replicate N false) i) wr) (fun _ _ _ _ _ t _ => n - (intOf t).toNat)
  case atStart => exact ⟨0, Nat.zero_le _, rfl, PRel.new w1 N (by omega)⟩
  case round =>
    obtain ⟨i, hi, rfl, hP⟩ := hrel
    obtain ⟨st, hst⟩ : ∃ st, arrTo l delay (List.replicate N 0, List.replicate N false) i = st := ⟨_, rfl⟩
    rw [hst] at hP
    have HST := Lib.hid hst
    have HP := Lib.hid hP; clear hst hP
    have zr := HP.out.1.size
    by_cases hlt : i < n
    · obtain ⟨g, o, ⟨zat, zty, zsq, ztm, zsr, zmk, zA, zn, zc, zpay⟩, rfl, _, hgl, hz, hc⟩ := (H.out.1.grown HP.out.1 (fun g e => by cases e)).get ArrV.row_len hlt
      obtain ⟨f, hf⟩ : ∃ f, l[0]? = some f := ⟨_, List.getElem?_eq_getElem (by rw [H.out.1.len]; omega)⟩
      have HR := Lib.hid (H.out.1.grown HP.out.1 (fun g e => by cases e))
      have HZ := Lib.hid hz; have HC := Lib.hid hc; have HF1 := Lib.hid hf
      have zok := HOK.out.2 _ (mem_of_get hz)
      have fok := HOK.out.2 f (mem_of_get hf)
      have HBY := Lib.hid (show Bytes w1 lo zA zn zc zpay from (H.out.2 _ (mem_of_get hz)).2)
      dsimp only at zok
      obtain ⟨⟨z10, z11⟩, _, ⟨z20, z21⟩, z3⟩ := zok
      obtain ⟨⟨f10, f11⟩, _, ⟨f20, f21⟩, _⟩ := fok
      clear hz hc hf
      obtain ⟨F, hFe⟩ : ∃ F, tAp ztm f.tm = F := ⟨_, rfl⟩
      have hFb := tAp_bd ztm f.tm
      rw [hFe] at hFb
      obtain ⟨F0, F1⟩ := hFb
      have HFE := Lib.hid hFe; clear hFe
      have k03 := HR.out.at0 ArrV.row_len HF1.out 3 _ rfl
      have k00 := HR.out.at0 ArrV.row_len HF1.out 0 _ rfl
      simp only [Nat.add_zero] at k00
      have s6 : (0 : Int) < (n : Int) := by omega
      have s7 : 0 < n := by omega
      by_cases hlate : f.at_ + delay + F / 8 < zat
      · go_wp2_with (first
          | (refine wpl_load_at Try.arrT rfl _ rfl _ rfl [.int .i64 zat, .int .i64 zty, .int .i64 zsq, .int .i64 ztm, .int .i64 zsr, .bool zmk, .slice zA zn zc] rfl (fun j u hu => by rw [add_mk]; exact HC.out j u hu) ?_)
          | fail)
        go_quiet ((go_at_call 72; exact quiet0 (apart_as ztm f.tm F _ z20 z21 f20 f21 HFE.out)))
        go_wp2_with fail
        go_quiet (fail)
        go_wp2_with fail
        go_roundw
        case rel => exact ⟨i + 1, by omega, by go_num, by rw [arrTo, HST.out, playArr_late HZ.out HF1.out HFE.out hlate]; exact (HP.out.alloc _).drewN _⟩
        case measure => simp [intOf]; omega
      · have hlt' : decide (f.at_ + delay + F / 8 < zat) = false := by simpa using hlate
        have HLATE := Lib.hid hlate
        obtain ⟨wo, rfl⟩ : ∃ wo : World, wo = wr := ⟨_, rfl⟩
        go_wp2_with (first
          | (refine wpl_load_at Try.arrT rfl _ rfl _ rfl [.int .i64 zat, .int .i64 zty, .int .i64 zsq, .int .i64 ztm, .int .i64 zsr, .bool zmk, .slice zA zn zc] rfl (fun j u hu => by rw [add_mk]; exact HC.out j u hu) ?_)
          | fail)
        go_quiet ((go_at_call 72; exact quiet0 (apart_as ztm f.tm F _ z20 z21 f20 f21 HFE.out)))
        go_wp2_with fail
        go_quiet (fail)
        go_wp2_with fail
        go_loopw [14, 15, 16, 68] (fun _ _ _ t wr2 => ∃ k : Nat, k ≤ zn ∧ t = .int .i64 k ∧ PRel w1 w1.heap.size (w1.heap.size + 1) N (payTo F zpay st k) wr2) (fun _ _ _ t _ => zn - (intOf t).toNat)
        case atStart => exact ⟨0, Nat.zero_le _, rfl, (HP.out.alloc _).drewN _⟩
        case round =>
          obtain ⟨k, hk, rfl, hP2⟩ := hrel
          obtain ⟨st2, hst2⟩ : ∃ st2, payTo F zpay st k = st2 := ⟨_, rfl⟩
          rw [hst2] at hP2
          have HST2 := Lib.hid hst2
          have HP2 := Lib.hid hP2; clear hst2 hP2
          have zr2 := HP2.out.1.size
          by_cases hk2 : k < zn
          · obtain ⟨gp, op, b, rfl, _, _, hb, hcb, b0, b1⟩ := (HBY.out.grown HP2.out.1 (fun g e => by cases e)).get hk2
            have HB2 := Lib.hid hb; clear hb
            have hlen := HP2.out.len.1
            have HLEN := Lib.hid hlen; clear hlen
            by_cases hr : 0 ≤ F + (k : Int) ∧ F + (k : Int) < (N : Int)
            · obtain ⟨q, hq⟩ : ∃ q : Nat, F + (k : Int) = (q : Int) := ⟨(F + (k : Int)).toNat, by omega⟩
              obtain ⟨hr0, hr1⟩ := hr
              have q1 : q < N := by omega
              have q2 : (q : Int) < (N : Int) := by omega
              have q3 : (0 : Int) ≤ (q : Int) := by omega
              have q4 : inB (q : Int) 0 ((N : Int) - 1) = true := by simp [inB]; omega
              obtain ⟨x, hx, hcx, hfx⟩ := HP2.out.getO q1
              obtain ⟨y, hy, hcy, hfy⟩ := HP2.out.getT q1
              have HQ := Lib.hid hq
              have HY := Lib.hid hy; clear hx hy
              cases y
              · go_wp2_with (first
                  | (go_at_call 32; refine (expand_any b _ b0 b1).mono ?_; rintro e w' ⟨rfl, rfl⟩)
                  | (go_at_call 63; refine (in_any _ _ _ _).mono ?_; rintro e w' ⟨rfl, rfl⟩)
                  | fail)
                go_roundw
                case rel => exact ⟨k + 1, by omega, by go_num, by rw [payTo_succ HB2.out HST2.out, HQ.out, playPut_new (by rw [HLEN.out]; exact q1) HY.out]; exact (HP2.out.setO (Nat.le_refl _) (by omega) q _).setT (by omega) (by omega) q true⟩
                case measure => simp [intOf]; omega
              · go_wp2_with (first
                  | (go_at_call 63; refine (in_any _ _ _ _).mono ?_; rintro e w' ⟨rfl, rfl⟩)
                  | fail)
                go_roundw
                case rel => exact ⟨k + 1, by omega, by go_num, by rw [payTo_succ HB2.out HST2.out, HQ.out, playPut_there HY.out]; exact HP2.out⟩
                case measure => simp [intOf]; omega
            · have HNO := Lib.hid (playPut_no (st := st2) (i := F + k) (b := b) (N := N) HLEN.out (by omega))
              have q4 : inB (F + (k : Int)) 0 ((N : Int) - 1) = false := by simp [inB]; omega
              by_cases hneg : F + (k : Int) < 0
              · have hneg' : decide (0 ≤ F + (k : Int)) = false := by simp; omega
                go_wp2_with (first
                  | (go_at_call 63; refine (in_any _ _ _ _).mono ?_; rintro e w' ⟨rfl, rfl⟩)
                  | fail)
                go_roundw
                case rel => exact ⟨k + 1, by omega, by go_num, by rw [payTo_succ HB2.out HST2.out, HNO.out]; exact HP2.out⟩
                case measure => simp [intOf]; omega
              · have hneg' : decide (F + (k : Int) < (N : Int)) = false := by simp; omega
                have hneg2 : 0 ≤ F + (k : Int) := by omega
                go_wp2_with (first
                  | (go_at_call 63; refine (in_any _ _ _ _).mono ?_; rintro e w' ⟨rfl, rfl⟩)
                  | fail)
                go_roundw
                case rel => exact ⟨k + 1, by omega, by go_num, by rw [payTo_succ HB2.out HST2.out, HNO.out]; exact HP2.out⟩
                case measure => simp [intOf]; omega
          · obtain rfl : k = zn := by omega
            have HPL := Lib.hid HBY.out.1.len
            go_wp2_with fail
            go_roundw
            case rel => exact ⟨i + 1, by omega, by go_num, by rw [arrTo, HST.out, playArr_on HZ.out HF1.out HFE.out (Int.not_lt.2 HLATE.out)]; dsimp only; rw [HPL.out, HST2.out]; exact HP2.out⟩
            case measure => simp [intOf]; omega
    · obtain rfl : i = n := by omega
      obtain rfl : playSt l delay N = st := by unfold playSt; rw [H.out.1.len]; exact HST.out
      obtain ⟨wo, rfl⟩ : ∃ wo : World, wo = wr := ⟨_, rfl⟩
      go_wp2_with fail
      go_loopw [17, 103] (fun _ t wr => ∃ k : Nat, k ≤ N ∧ t = .int .i64 k ∧ PRel w1 w1.heap.size (w1.heap.size + 1) N (halfTo (playSt l delay N).2 (playSt l delay N).1 k, (playSt l delay N).2) wr) (fun _ t _ => N - (intOf t).toNat)
      case atStart => exact ⟨0, Nat.zero_le _, rfl, HP.out⟩
      case round =>
        obtain ⟨k, hk, rfl, hP3⟩ := hrel
        have HP3 := Lib.hid hP3; clear hP3
        have zr3 := HP3.out.1.size
        by_cases hk2 : k < N
        · obtain ⟨y, hy, hcy, hfy⟩ := HP3.out.getT hk2
          obtain ⟨x0, hx0, hcx0, hfx0⟩ := HP3.out.getO hk2
          have HY := Lib.hid hy; clear hy hx0
          have j0 : (0 : Int) ≤ (k : Int) := by omega
          have j1 : (k : Int) < (N : Int) := by omega
          cases y
          · by_cases h160 : 160 ≤ k
            · obtain ⟨x, hx, hcx, hfx⟩ := HP3.out.getO (show k - 160 < N by omega)
              have HX := Lib.hid hx; clear hx
              have h160' : (160 : Int) ≤ (k : Int) := by omega
              go_wp2_with fail
              go_roundw
              case rel => exact ⟨k + 1, by omega, by go_num, by rw [halfTo_yes HY.out h160 HX.out]; exact HP3.out.setO (Nat.le_refl _) (by omega) k _⟩
              case measure => simp [intOf]; omega
            · have h160' : decide ((160 : Int) ≤ (k : Int)) = false := by simp; omega
              go_wp2_with fail
              go_roundw
              case rel => exact ⟨k + 1, by omega, by go_num, by rw [halfTo_no (.inr (by omega))]; exact HP3.out⟩
              case measure => simp [intOf]; omega
          · go_wp2_with fail
            go_roundw
            case rel => exact ⟨k + 1, by omega, by go_num, by rw [halfTo_no (.inl HY.out)]; exact HP3.out⟩
            case measure => simp [intOf]; omega
        · obtain rfl : k = N := by omega
          go_wp2_with fail
          go_ret2
          have hp := HP3.out
          exact ⟨_, rfl, ⟨_, _, _, rfl, Ints.lower hp.2.1.reads z1⟩, gr_none HG1.out hp.1⟩
end Go.Proofs.Ytdknfhpconfhkaa

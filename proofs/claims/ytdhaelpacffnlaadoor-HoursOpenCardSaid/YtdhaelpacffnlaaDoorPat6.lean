/- Contracts of takes, of the trailing zeros and of shared. Conditions: none. -/
import Derived.Test.YtdhaelpacffnlaaDoorPat5
namespace Go.Proofs.YtdhaelpacffnlaaDoor
open Go.RowKit

set_option maxHeartbeats 2000000 in
theorem read_large (s : ByteArray) (w : World) (hs : 60 < s.size) : Calls Tryd.prog 50 #[.string s] w (RetV (.tuple #[.agg #[.slice none 0 0, .int .u8 0], .int .i64 2]) w) := by
  have d0 : decide ((60 : Int) < (s.size : Int)) = true := decide_eq_true (by omega)
  have HZ := Lib.hid (Blk.new w 84 #[.slice none 0 0, .int .u8 0])
  go_enter Tryd.func50, Tryd.ntmps50
  go_wp2_with (first
    | (refine wpl_store_all Tryd.patT rfl _ _ rfl _ rfl _ _ _ rfl HZ.out rfl rfl (by simp [Value.oneCell']) ?_
       intro wz hst
       have HST := Lib.hid hst; clear hst)
    | fail)
  have hst := HST.out
  refine ret_cell_tmp Tryd.patT rfl _ _ _ _ rfl rfl hst.1 rfl rfl ?_
  exact ⟨rfl, gr_trans (gr_alloc (gr_refl _ _) _) hst.2.1 (fun g e => .inr (by injection e with e; omega))⟩

def u16L (S : List Nat) : List Int := S.map (fun m : Nat => (m : Int))
theorem own_u16 {w : World} {lo : Nat} {A : Option Addr} {n c : Nat} {S : List Nat} (h : Own w lo 110 1 A n c (S.map mv)) : Ints .u16 w lo A n c (u16L S) := by
  have := Own.reads h
  unfold Ints u16L
  rw [List.map_map]
  exact this
theorem u16L_get {S : List Nat} {k : Nat} {z : Int} (h : (u16L S)[k]? = some z) : z = ((S.getD k 0 : Nat) : Int) := by
  unfold u16L at h
  rw [List.getElem?_map] at h
  cases hs : S[k]? with
  | none => rw [hs] at h; cases h
  | some m => rw [hs] at h; injection h with h; rw [List.getD_eq_getElem?_getD, hs]; exact h.symm
theorem u16L_len (S : List Nat) : (u16L S).length = S.length := by simp [u16L]

theorem beq_nat (a b : Nat) : ((a : Int) == (b : Int)) = decide (a = b) := by
  rw [Bool.eq_iff_iff, beq_iff_eq, decide_eq_true_iff]; omega
set_option maxRecDepth 100000 in
set_option maxHeartbeats 4000000 in
theorem takes_any (A : Option Addr) (n c k : Nat) (x : List Nat × Nat) (w : World) (h : Ints .u16 w 0 A n c (u16L x.1)) (hn : n ≤ 100) (hk : k ≤ 100) :
    Calls Tryd.prog 72 #[.agg #[.slice A n c, .int .u8 x.2], .int .i64 k] w (RetV (.tuple #[.int .u16 (takesL x k).1, .bool (takesL x k).2]) w) := by
  obtain ⟨S, t⟩ := x
  dsimp only at h ⊢
  have hlen : S.length = n := by rw [← u16L_len, h.len]
  by_cases hkn : k < n
  · obtain ⟨g, o, z, rfl, _, hgl, hz, hc⟩ := h.get hkn
    have HV := Lib.hid (show takesL (S, t) k = (S.getD k 0, false) by unfold takesL; rw [if_pos (by dsimp only; omega)])
    have hz' := u16L_get hz
    generalize S.getD k 0 = m at *
    subst hz'
    clear hz h
    have HLN := Lib.hid hlen; clear hlen
    go_enter Tryd.func72, Tryd.ntmps72
    go_wp2_with fail
    go_ret2
    exact ⟨by rw [HV.out]; rfl, gr_alloc (gr_refl _ _) _⟩
  · have e0 : ¬ k < S.length := by omega
    have q1 : decide (k < n) = false := decide_eq_false hkn
    have q2 : decide ((k : Int) < (n : Int)) = false := decide_eq_false (by omega)
    clear h
    by_cases h46 : t = 46
    · subst h46
      have HV := Lib.hid (show takesL (S, 46) k = (4095, decide (n < k)) by unfold takesL; rw [if_neg e0, if_pos rfl]; dsimp only; rw [hlen])
      clear e0 hlen
      go_enter Tryd.func72, Tryd.ntmps72
      go_wp2_with fail
      go_quiet (fail)
      go_wp2_with fail
      go_ret2
      exact ⟨by rw [HV.out]; first | rfl | simp | fail, gr_drewN (gr_alloc (gr_refl _ _) _) _⟩
    · obtain ⟨b1, b1'⟩ := beq_no h46
      by_cases h33 : t = 33
      · subst h33
        have HV := Lib.hid (show takesL (S, 33) k = (4095, true) by unfold takesL; rw [if_neg e0]; rfl)
        clear e0 hlen
        go_enter Tryd.func72, Tryd.ntmps72
        go_wp2_with fail
        go_ret2
        exact ⟨by rw [HV.out]; rfl, gr_alloc (gr_refl _ _) _⟩
      · obtain ⟨b2, b2'⟩ := beq_no h33
        have HV := Lib.hid (show takesL (S, t) k = (0, decide (k = n)) by unfold takesL; rw [if_neg e0, if_neg h46, if_neg h33]; dsimp only; rw [hlen])
        clear e0 hlen
        go_enter Tryd.func72, Tryd.ntmps72
        go_wp2_with fail
        go_quiet (fail)
        go_wp2_with fail
        go_ret2
        exact ⟨by rw [HV.out, ← beq_nat]; rfl, gr_drewN (gr_alloc (gr_refl _ _) _) _⟩
/-- Go's own table of de Bruijn. -/
def dbTab : List Nat := [0, 1, 28, 2, 29, 14, 24, 3, 30, 22, 20, 15, 25, 17, 4, 8, 31, 27, 13, 23, 21, 19, 16, 7, 26, 12, 18, 6, 11, 5, 10, 9]
def DbT (w : World) : Prop := ∀ i, i < 32 → w.cell? ⟨0, i, none⟩ = some (.int .u8 (dbTab.getD i 0 : Nat))
def tzM (M : Nat) : Nat := dbTab.getD ((M &&& (65536 - M)) * 125613361 % 4294967296 / 134217728) 0
theorem tz_fin : ∀ a : Fin 64, ∀ b : Fin 64, 64 * a.val + b.val = 0 ∨ (sgn.getD (tzM (64 * a.val + b.val)) 0 = firstS (64 * a.val + b.val) ∧ tzM (64 * a.val + b.val) ≤ 11) := by decide +kernel
theorem tz_first {M : Nat} (h0 : M ≠ 0) (h : M < 4096) : sgn.getD (tzM M) 0 = firstS M ∧ tzM M ≤ 11 := by
  have := tz_fin ⟨M / 64, by omega⟩ ⟨M % 64, by omega⟩
  dsimp only at this
  rw [show 64 * (M / 64) + M % 64 = M by omega] at this
  rcases this with h1 | h1
  · exact absurd h1 h0
  · exact h1
set_option maxRecDepth 100000 in
set_option maxHeartbeats 4000000 in
theorem tz_any (M : Nat) (w : World) (h : DbT w) (h0 : M ≠ 0) (hM : M < 4096) : Calls Tryd.prog 73 #[.int .u16 M] w (Same (.int .i64 (tzM M : Nat)) w) := by
  have b1 : ((M : Int) == 0) = false := by rw [beq_eq_false_iff_ne]; omega
  have b1' : (M == 0) = false := by rw [beq_eq_false_iff_ne]; omega
  obtain ⟨p, hp⟩ : ∃ p, M &&& (65536 - M) = p := ⟨_, rfl⟩
  have hpM : p ≤ 4095 := by have := Nat.and_le_left (n := M) (m := 65536 - M); omega
  have h1 : bits .and .u16 (M : Int) (IntKind.u16.wrap (-(M : Int))) = (p : Int) := by
    have e : IntKind.u16.wrap (-(M : Int)) = ((65536 - M : Nat) : Int) := by rw [IntKind.wrap_u16]; omega
    rw [e, u16_and M (65536 - M) (by omega) (by omega), hp]
  obtain ⟨r, hr⟩ : ∃ r, p * 125613361 % 4294967296 / 134217728 = r := ⟨_, rfl⟩
  have hr32 : r < 32 := by omega
  have h2 : (p : Int) * 125613361 % 4294967296 / 134217728 = (r : Int) := by rw [← hr, Int.natCast_ediv, Int.natCast_emod, Int.natCast_mul]; rfl
  have h2' : (p : Int) % 4294967296 * 125613361 % 4294967296 / 134217728 = (r : Int) := by rw [show (p : Int) % 4294967296 = (p : Int) by omega]; exact h2
  have HTZ := Lib.hid (show tzM M = dbTab.getD r 0 by unfold tzM; rw [hp, hr])
  obtain ⟨z, hz⟩ : ∃ z, dbTab.getD r 0 = z := ⟨_, rfl⟩
  have hc := h r hr32
  rw [hz] at hc
  have hz11 : z ≤ 31 := by
    rw [← hz]
    have : ∀ i : Fin 32, dbTab.getD i.val 0 ≤ 31 := by decide +kernel
    exact this ⟨r, hr32⟩
  have HZ := Lib.hid hz
  clear h hz hr hp
  go_enter Tryd.func73, Tryd.ntmps73
  go_wp2_with fail
  go_ret
  exact ⟨by rw [HTZ.out, HZ.out]; rfl, rfl⟩

/-- A pattern, as a record. -/
structure PatV where
  A : Option Addr
  n : Nat
  c : Nat
  x : List Nat × Nat
def patRow (p : PatV) : List Value := [.slice p.A p.n p.c, .int .u8 p.x.2]
theorem patRow_len (p : PatV) : (patRow p).length = 2 := rfl
def PatOk (w : World) (p : PatV) : Prop := Ints .u16 w 0 p.A p.n p.c (u16L p.x.1) ∧ p.n ≤ 30 ∧ Right p.x
theorem allM_bd {ps : List (List Nat × Nat)} (h : ∀ x ∈ ps, Right x) (k : Nat) (a : Nat) (ha : a < 4096) : ps.foldl (fun m p => m &&& (takesL p k).1) a < 4096 := by
  induction ps generalizing a with
  | nil => exact ha
  | cons p ps ih =>
    rw [List.foldl_cons]
    exact ih (fun x hx => h x (by simp [hx])) _ (Nat.and_lt_two_pow _ (n := 12) (by
      rw [takes_fst (h p (by simp))]
      split
      · omega
      · exact mAt_bd (h p (by simp)) k))
theorem take_fold {α β : Type} {f : β → α → β} {a : β} {l : List α} {i : Nat} {z : α} (h : l[i]? = some z) : (l.take (i + 1)).foldl f a = f ((l.take i).foldl f a) z := by
  rw [take_snoc' h, List.foldl_append]; rfl
def mTo (ps : List (List Nat × Nat)) (k i : Nat) : Nat := (ps.take i).foldl (fun m p => m &&& (takesL p k).1) 4095
def eTo (ps : List (List Nat × Nat)) (k i : Nat) : Bool := (ps.take i).foldl (fun e p => e && (takesL p k).2) (decide (0 < k))
def ShRel (w wr : World) (ps : List (List Nat × Nat)) (f k : Nat) (b : List Nat) (A : Option Addr) (n c : Nat) : Prop :=
  w.grownBy wr none ∧ Own wr w.heap.size 5 1 A n c (b.map (fun z : Nat => Value.int .u8 z)) ∧ b.length = n ∧ shF ps f k b = sharedL ps
def ShLoop (w : World) (ps : List (List Nat × Nat)) (v t : Value) (wr : World) : Prop := ∃ (k f : Nat) (b : List Nat) (A : Option Addr) (n c : Nat), v = .slice A n c ∧ t = .int .i64 k ∧ k ≤ 31 ∧ n = k ∧ f = 31 - k ∧ ShRel w wr ps f k b A n c
end Go.Proofs.YtdhaelpacffnlaaDoor

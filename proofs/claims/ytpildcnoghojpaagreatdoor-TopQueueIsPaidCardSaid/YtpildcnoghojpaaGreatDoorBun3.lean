/- Contracts of takes, of the trailing zeros and of shared. Conditions: none. -/
import Derived.Test.YtpildcnoghojpaaGreatDoorPat5
import Derived.ProofKit
import Derived.LaidMore
import Derived.OpenShut
import Derived.MakeChecks
import Derived.LaidHandle
import Derived.Test.YtpildcnoghojpaaGreatDoorBun1
namespace Go.Proofs.YtpildcnoghojpaaGreatDoor
section
open Go.RowKit

set_option maxHeartbeats 2000000 in
theorem read_large (s : ByteArray) (w : World) (hs : 60 < s.size) : Calls Tryz.prog 51 #[.string s] w (RetV (.tuple #[.agg #[.slice none 0 0, .int .u8 0], .int .i64 2]) w) := by
  have d0 : decide ((60 : Int) < (s.size : Int)) = true := decide_eq_true (by omega)
  have HZ := Lib.hid (Blk.new w 145 #[.slice none 0 0, .int .u8 0])
  go_enter Tryz.func51, Tryz.ntmps51
  go_wp2_with (first
    | (refine wpl_store_all Tryz.patT rfl _ _ rfl _ rfl _ _ _ rfl HZ.out rfl rfl (by simp [Value.oneCell']) ?_
       intro wz hst
       have HST := Lib.hid hst; clear hst)
    | fail)
  have hst := HST.out
  refine ret_cell_tmp Tryz.patT rfl _ _ _ _ rfl rfl hst.1 rfl rfl ?_
  exact ⟨rfl, gr_trans (gr_alloc (gr_refl _ _) _) hst.2.1 (fun g e => .inr (by injection e with e; omega))⟩

def u16L (S : List Nat) : List Int := S.map (fun m : Nat => (m : Int))
theorem own_u16 {w : World} {lo : Nat} {A : Option Addr} {n c : Nat} {S : List Nat} (h : Own w lo 170 1 A n c (S.map mv)) : Ints .u16 w lo A n c (u16L S) := by
  have := Own.reads h
  unfold Ints u16L
  rw [List.map_map]
  exact this
theorem u16L_get {S : List Nat} {k : Nat} {z : Int} (h : (u16L S)[k]? = some z) : z = ((S.getD k 0 : Nat) : Int) := by
  unfold u16L at h
  rw [List.getElem?_map] at h
  cases hs : S[k]? with
  | none => rw [hs] at h; cases h
  | some m => rw [hs] at h; injection h with h; rw [List.getD_eq_getElem?_getD, hs]; exact h.symm
theorem u16L_len (S : List Nat) : (u16L S).length = S.length := by simp [u16L]

theorem beq_nat (a b : Nat) : ((a : Int) == (b : Int)) = decide (a = b) := by
  rw [Bool.eq_iff_iff, beq_iff_eq, decide_eq_true_iff]; omega
set_option maxRecDepth 100000 in
set_option maxHeartbeats 4000000 in
theorem takes_any (A : Option Addr) (n c k : Nat) (x : List Nat × Nat) (w : World) (h : Ints .u16 w 0 A n c (u16L x.1)) (hn : n ≤ 100) (hk : k ≤ 100) :
    Calls Tryz.prog 79 #[.agg #[.slice A n c, .int .u8 x.2], .int .i64 k] w (RetV (.tuple #[.int .u16 (takesL x k).1, .bool (takesL x k).2]) w) := by
  obtain ⟨S, t⟩ := x
  dsimp only at h ⊢
  have hlen : S.length = n := by rw [← u16L_len, h.len]
  by_cases hkn : k < n
  · obtain ⟨g, o, z, rfl, _, hgl, hz, hc⟩ := h.get hkn
    have HV := Lib.hid (show takesL (S, t) k = (S.getD k 0, false) by unfold takesL; rw [if_pos (by dsimp only; omega)])
    have hz' := u16L_get hz
    generalize S.getD k 0 = m at *
    subst hz'
    clear hz h
    have HLN := Lib.hid hlen; clear hlen
    go_enter Tryz.func79, Tryz.ntmps79
    go_wp2_with fail
    go_ret2
    exact ⟨by rw [HV.out]; rfl, gr_alloc (gr_refl _ _) _⟩
  · have e0 : ¬ k < S.length := by omega
    have q1 : decide (k < n) = false := decide_eq_false hkn
    have q2 : decide ((k : Int) < (n : Int)) = false := decide_eq_false (by omega)
    clear h
    by_cases h46 : t = 46
    · subst h46
      have HV := Lib.hid (show takesL (S, 46) k = (4095, decide (n < k)) by unfold takesL; rw [if_neg e0, if_pos rfl]; dsimp only; rw [hlen])
      clear e0 hlen
      go_enter Tryz.func79, Tryz.ntmps79
      go_wp2_with fail
      go_quiet (fail)
      go_wp2_with fail
      go_ret2
      exact ⟨by rw [HV.out]; first | rfl | simp | fail, gr_drewN (gr_alloc (gr_refl _ _) _) _⟩
    · obtain ⟨b1, b1'⟩ := beq_no h46
      by_cases h33 : t = 33
      · subst h33
        have HV := Lib.hid (show takesL (S, 33) k = (4095, true) by unfold takesL; rw [if_neg e0]; rfl)
        clear e0 hlen
        go_enter Tryz.func79, Tryz.ntmps79
        go_wp2_with fail
        go_ret2
        exact ⟨by rw [HV.out]; rfl, gr_alloc (gr_refl _ _) _⟩
      · obtain ⟨b2, b2'⟩ := beq_no h33
        have HV := Lib.hid (show takesL (S, t) k = (0, decide (k = n)) by unfold takesL; rw [if_neg e0, if_neg h46, if_neg h33]; dsimp only; rw [hlen])
        clear e0 hlen
        go_enter Tryz.func79, Tryz.ntmps79
        go_wp2_with fail
        go_quiet (fail)
        go_wp2_with fail
        go_ret2
        exact ⟨by rw [HV.out, ← beq_nat]; rfl, gr_drewN (gr_alloc (gr_refl _ _) _) _⟩
/-- Go's own table of de Bruijn. -/
def dbTab : List Nat := [0, 1, 28, 2, 29, 14, 24, 3, 30, 22, 20, 15, 25, 17, 4, 8, 31, 27, 13, 23, 21, 19, 16, 7, 26, 12, 18, 6, 11, 5, 10, 9]
def DbT (w : World) : Prop := ∀ i, i < 32 → w.cell? ⟨0, i, none⟩ = some (.int .u8 (dbTab.getD i 0 : Nat))
def tzM (M : Nat) : Nat := dbTab.getD ((M &&& (65536 - M)) * 125613361 % 4294967296 / 134217728) 0
theorem tz_fin : ∀ a : Fin 64, ∀ b : Fin 64, 64 * a.val + b.val = 0 ∨ (sgn.getD (tzM (64 * a.val + b.val)) 0 = firstS (64 * a.val + b.val) ∧ tzM (64 * a.val + b.val) ≤ 11) := by decide +kernel
theorem tz_first {M : Nat} (h0 : M ≠ 0) (h : M < 4096) : sgn.getD (tzM M) 0 = firstS M ∧ tzM M ≤ 11 := by
  have := tz_fin ⟨M / 64, by omega⟩ ⟨M % 64, by omega⟩
  dsimp only at this
  rw [show 64 * (M / 64) + M % 64 = M by omega] at this
  rcases this with h1 | h1
  · exact absurd h1 h0
  · exact h1
set_option maxRecDepth 100000 in
set_option maxHeartbeats 4000000 in
theorem tz_any (M : Nat) (w : World) (h : DbT w) (h0 : M ≠ 0) (hM : M < 4096) : Calls Tryz.prog 80 #[.int .u16 M] w (Same (.int .i64 (tzM M : Nat)) w) := by
  have b1 : ((M : Int) == 0) = false := by rw [beq_eq_false_iff_ne]; omega
  have b1' : (M == 0) = false := by rw [beq_eq_false_iff_ne]; omega
  obtain ⟨p, hp⟩ : ∃ p, M &&& (65536 - M) = p := ⟨_, rfl⟩
  have hpM : p ≤ 4095 := by have := Nat.and_le_left (n := M) (m := 65536 - M); omega
  have h1 : bits .and .u16 (M : Int) (IntKind.u16.wrap (-(M : Int))) = (p : Int) := by
    have e : IntKind.u16.wrap (-(M : Int)) = ((65536 - M : Nat) : Int) := by rw [IntKind.wrap_u16]; omega
    rw [e, u16_and M (65536 - M) (by omega) (by omega), hp]
  obtain ⟨r, hr⟩ : ∃ r, p * 125613361 % 4294967296 / 134217728 = r := ⟨_, rfl⟩
  have hr32 : r < 32 := by omega
  have h2 : (p : Int) * 125613361 % 4294967296 / 134217728 = (r : Int) := by rw [← hr, Int.natCast_ediv, Int.natCast_emod, Int.natCast_mul]; rfl
  have h2' : (p : Int) % 4294967296 * 125613361 % 4294967296 / 134217728 = (r : Int) := by rw [show (p : Int) % 4294967296 = (p : Int) by omega]; exact h2
  have HTZ := Lib.hid (show tzM M = dbTab.getD r 0 by unfold tzM; rw [hp, hr])
  obtain ⟨z, hz⟩ : ∃ z, dbTab.getD r 0 = z := ⟨_, rfl⟩
  have hc := h r hr32
  rw [hz] at hc
  have hz11 : z ≤ 31 := by
    rw [← hz]
    have : ∀ i : Fin 32, dbTab.getD i.val 0 ≤ 31 := by decide +kernel
    exact this ⟨r, hr32⟩
  have HZ := Lib.hid hz
  clear h hz hr hp
  go_enter Tryz.func80, Tryz.ntmps80
  go_wp2_with fail
  go_ret
  exact ⟨by rw [HTZ.out, HZ.out]; rfl, rfl⟩

/-- A pattern, as a record. -/
structure PatV where
  A : Option Addr
  n : Nat
  c : Nat
  x : List Nat × Nat
def patRow (p : PatV) : List Value := [.slice p.A p.n p.c, .int .u8 p.x.2]
theorem patRow_len (p : PatV) : (patRow p).length = 2 := rfl
def PatOk (w : World) (p : PatV) : Prop := Ints .u16 w 0 p.A p.n p.c (u16L p.x.1) ∧ p.n ≤ 30 ∧ Right p.x
theorem allM_bd {ps : List (List Nat × Nat)} (h : ∀ x ∈ ps, Right x) (k : Nat) (a : Nat) (ha : a < 4096) : ps.foldl (fun m p => m &&& (takesL p k).1) a < 4096 := by
  induction ps generalizing a with
  | nil => exact ha
  | cons p ps ih =>
    rw [List.foldl_cons]
    exact ih (fun x hx => h x (by simp [hx])) _ (Nat.and_lt_two_pow _ (n := 12) (by
      rw [takes_fst (h p (by simp))]
      split
      · omega
      · exact mAt_bd (h p (by simp)) k))
theorem take_fold {α β : Type} {f : β → α → β} {a : β} {l : List α} {i : Nat} {z : α} (h : l[i]? = some z) : (l.take (i + 1)).foldl f a = f ((l.take i).foldl f a) z := by
  rw [take_snoc' h, List.foldl_append]; rfl
def mTo (ps : List (List Nat × Nat)) (k i : Nat) : Nat := (ps.take i).foldl (fun m p => m &&& (takesL p k).1) 4095
def eTo (ps : List (List Nat × Nat)) (k i : Nat) : Bool := (ps.take i).foldl (fun e p => e && (takesL p k).2) (decide (0 < k))
def ShRel (w wr : World) (ps : List (List Nat × Nat)) (f k : Nat) (b : List Nat) (A : Option Addr) (n c : Nat) : Prop :=
  w.grownBy wr none ∧ Own wr w.heap.size 5 1 A n c (b.map (fun z : Nat => Value.int .u8 z)) ∧ b.length = n ∧ shF ps f k b = sharedL ps
def ShLoop (w : World) (ps : List (List Nat × Nat)) (v t : Value) (wr : World) : Prop := ∃ (k f : Nat) (b : List Nat) (A : Option Addr) (n c : Nat), v = .slice A n c ∧ t = .int .i64 k ∧ k ≤ 31 ∧ n = k ∧ f = 31 - k ∧ ShRel w wr ps f k b A n c
end
end Go.Proofs.YtpildcnoghojpaaGreatDoor
/- What the listed table of math/bits holds when a call begins. Conditions: the row's own. -/
namespace Go.Proofs.YtpildcnoghojpaaGreatDoor
section
open Go.ChangeShapes Go.WideShapes Go.ChangeAt Go.RowKit

/-- A table of bytes, read as a datum: its cells. -/
theorem tab_cells {H : Type} {enc : TypeId × Value → H} {P : Program} {w : World} {base fuel : Nat} {sp : Nat → Bool} {held : Bool} {t e : TypeId} {n : Nat} {cs : List Value} {q : List MemPlace} {l : List Nat}
    (ht : P.underlying t = some (.array n e)) (he : P.underlying e = some (.int .u8)) (h1 : P.cellsOf e = 1)
    (h : DataW.trod enc P w base sp held fuel t cs = some (.agg (l.map (fun k : Nat => .lit (.int .u8 (k : Int)))), q)) (i : Nat) (hi : i < n) : cs[i]? = some (.int .u8 (l.getD i 0 : Nat)) := by
  obtain ⟨xs, m, rfl, hx, hlen, hn, hel⟩ := DataW.trod_array ht h
  have h2 := hel i hi
  rw [h1, Nat.mul_one] at h2
  have hxi : xs[i]? = some xs[i] := List.getElem?_eq_getElem (by omega)
  rw [hxi] at h2
  obtain ⟨k, e1, e2, _⟩ := DataW.trod_int he h2
  simp only [Prod.mk.injEq, DataW.agg.injEq] at hx
  have h3 := congrArg (fun z => z[i]?) hx.1
  simp only [List.getElem?_map, hxi, Option.map_some, e2] at h3
  cases hl : l[i]? with
  | none => rw [hl] at h3; cases h3
  | some y =>
    rw [hl] at h3
    simp at h3
    rw [List.getD_eq_getElem?_getD, hl]
    have h4 : cs.drop i = .int .u8 k :: cs.drop (i + 1) := by
      cases hd : cs.drop i with
      | nil => rw [hd] at e1; cases e1
      | cons a r =>
        rw [hd] at e1
        simp at e1
        rw [e1]
        congr 1
        have := congrArg List.tail hd
        simpa using this.symm
    have h5 : cs[i]? = (cs.drop i)[0]? := by rw [List.getElem?_drop, Nat.add_zero]
    rw [h5, h4, ← h3]
    rfl
theorem tDb : (Tryz.prog.globals[0]?).map (·.type) = some 190 := by kernel_rfl
end
end Go.Proofs.YtpildcnoghojpaaGreatDoor
/- Contract of shared. Conditions: none. -/
namespace Go.Proofs.YtpildcnoghojpaaGreatDoor
section
open Go.RowKit

theorem Tryz.byteT : ElemT Tryz.prog 174 5 1 1 (.int .u8 0) := elemT_of Tryz.underlying174 (by kernel_rfl) rfl (by decide)
theorem DbT.grown {w w' : World} {row : Option Nat} (h : DbT w) (hg : w.grownBy w' row) (hr : row ≠ some 0) : DbT w' := by
  intro i hi
  have hc := h i hi
  have hlt : 0 < w.heap.size := World.block_lt_of_cell? w _ hc
  exact (World.cell?_of_block (hg.block _ hlt (Ne.symm hr))).trans hc
theorem strI_nat (b : List Nat) : strI (b.map (fun z : Nat => (z : Int))) = strN b := by
  unfold strI strN; rw [List.map_map]; rfl
theorem signs_get {z : Nat} (h : z ≤ 11) (hs : z < (⟨#[35, 42, 48, 49, 50, 51, 52, 53, 54, 55, 56, 57]⟩ : ByteArray).size) : (⟨#[35, 42, 48, 49, 50, 51, 52, 53, 54, 55, 56, 57]⟩ : ByteArray)[z].toNat = sgn.getD z 0 := by
  rw [nb_get hs, nb_signs]
theorem signs_size : (⟨#[35, 42, 48, 49, 50, 51, 52, 53, 54, 55, 56, 57]⟩ : ByteArray).size = 12 := by decide

set_option maxRecDepth 100000 in
set_option maxHeartbeats 8000000 in
theorem shared_any (A : Option Addr) (N c : Nat) (l : List PatV) (w : World) (h : Recs patRow 2 w 0 A N c l) (hp : ∀ p ∈ l, PatOk w p) (hN : N ≤ 2) (ht : DbT w) :
    Calls Tryz.prog 52 #[.slice A N c] w (RetV (.tuple #[.string (strN (sharedL (l.map (·.x))).1), .bool (sharedL (l.map (·.x))).2]) w) := by
  obtain ⟨ps, hps⟩ : ∃ ps, l.map (·.x) = ps := ⟨_, rfl⟩
  have HPS := Lib.hid hps
  have hlen : ps.length = N := by rw [← hps, List.length_map, h.len]
  have HR := Lib.hid (show ∀ x ∈ ps, Right x by
    intro x hx
    rw [← hps] at hx
    obtain ⟨p, hp1, rfl⟩ := List.mem_map.1 hx
    exact (hp p hp1).2.2)
  rw [hps]
  obtain ⟨sg, hsg⟩ : ∃ sg, (⟨#[35, 42, 48, 49, 50, 51, 52, 53, 54, 55, 56, 57]⟩ : ByteArray) = sg := ⟨_, rfl⟩
  have sgsz : sg.size = 12 := by rw [← hsg]; exact signs_size
  have HSG := Lib.hid (show ∀ z (hz : z < sg.size), sg[z].toNat = sgn.getD z 0 by
    subst hsg
    intro z hz
    exact signs_get (by rw [signs_size] at hz; omega) hz)
  have sg12 : 12 ≤ sg.size := by omega
  have HL := Lib.hid hlen; have HP := Lib.hid hp; have H := Lib.hid h; have HT := Lib.hid ht
  clear hps hlen hp h ht sgsz
  go_enter Tryz.func52, Tryz.ntmps52
  go_wp2_with fail
  go_loopw [4, 5, 6, 7, 9, 10, 11, 20] (fun v t _ _ _ _ _ _ wr => ShLoop w ps v t wr) (fun _ t _ _ _ _ _ _ _ => 31 - (intOf t).toNat)
  case atStart => exact ⟨0, 31, [], none, 0, 0, rfl, rfl, by omega, rfl, rfl, gr_refl _ _, Own.nil _ _ _ _, rfl, rfl⟩
  case round =>
    obtain ⟨k, f, b, A1, n, c1, rfl, rfl, hk, rfl, rfl, hg, hown, hbl, hsh⟩ := hrel
    have HG := Lib.hid hg; have HW := Lib.hid hown; have HB := Lib.hid hbl; have HS := Lib.hid hsh
    have zr := hg.size
    clear hg hown hbl hsh
    by_cases hk30 : n ≤ 30
    · obtain ⟨B0, hB0⟩ : ∃ B0, decide (0 < n) = B0 := ⟨_, rfl⟩
      have hB0' : decide ((0 : Int) < (n : Int)) = B0 := by rw [← hB0]; apply decide_eq_decide.2; omega
      have HB0 := Lib.hid hB0
      obtain ⟨wo, rfl⟩ : ∃ wo : World, wo = wr := ⟨_, rfl⟩
      have d30 : decide ((n : Int) ≤ 30) = true := decide_eq_true (by omega)
      go_wp2_with fail
      go_loopw [6, 7, 9, 10, 11, 20] (fun v6 v7 _ _ _ t wr2 => ∃ i : Nat, i ≤ N ∧ t = .int .i64 i ∧ v6 = .int .u16 (mTo ps n i : Nat) ∧ v7 = .bool (eTo ps n i) ∧ wo.grownBy wr2 none) (fun _ _ _ _ _ t _ => N - (intOf t).toNat)
      case atStart => exact ⟨0, Nat.zero_le _, rfl, rfl, by unfold eTo; rw [List.take_zero, List.foldl_nil, HB0.out], gr_refl _ _⟩
      case round =>
        obtain ⟨i, hi, rfl, rfl, rfl, hg2⟩ := hrel
        have HG2 := Lib.hid hg2
        have zr2 := hg2.size
        clear hg2
        by_cases hlt : i < N
        · obtain ⟨g, o, p, rfl, _, hgl, hp, hc⟩ := (H.out.grown HG.out (fun g e => by cases e)).grown HG2.out (fun g e => by cases e) |>.get patRow_len hlt
          have hpx : ps[i]? = some p.x := by rw [← HPS.out, List.getElem?_map, hp]; rfl
          have hpo := HP.out p (mem_of_get hp)
          have HMN := Lib.hid (show mTo ps n (i + 1) = mTo ps n i &&& (takesL p.x n).1 from take_fold hpx)
          have HEN := Lib.hid (show eTo ps n (i + 1) = (eTo ps n i && (takesL p.x n).2) from take_fold hpx)
          have hm1 : mTo ps n i < 4096 := allM_bd (fun x hx => HR.out x (List.mem_of_mem_take hx)) n 4095 (by omega)
          have hm2 : (takesL p.x n).1 < 4096 := by
            rw [takes_fst hpo.2.2]
            split
            · omega
            · exact mAt_bd hpo.2.2 n
          obtain ⟨pA, pn, pc, px⟩ := p
          have HI := Lib.hid hpo.1
          have hpn : pn ≤ 30 := hpo.2.1
          dsimp only at HMN HEN hm2 HI
          obtain ⟨M2, E2, hT⟩ : ∃ M2 E2, takesL px n = (M2, E2) := ⟨_, _, rfl⟩
          have HTK := Lib.hid hT
          rw [hT] at HMN HEN hm2
          dsimp only at HMN HEN hm2
          obtain ⟨M1, hM1⟩ : ∃ M1, mTo ps n i = M1 := ⟨_, rfl⟩
          obtain ⟨E1, hE1⟩ : ∃ E1, eTo ps n i = E1 := ⟨_, rfl⟩
          rw [hM1] at HMN hm1
          rw [hE1] at HEN
          rw [hM1, hE1]
          have HAND := Lib.hid (u16_and M1 M2 (by omega) (by omega))
          have HC := Lib.hid hc
          clear hc hp hpx hpo hT hM1 hE1
          have y2 : g < wr.heap.size := hgl
          cases E1
          all_goals
            go_wp2_with (first
              | (refine wpl_load_at Tryz.patT rfl _ rfl ⟨g, o + i * 2, none⟩ rfl [.slice pA pn pc, .int .u8 (px.2 : Int)] rfl (fun j u hu => by rw [add_mk]; exact HC.out j u hu) ?_)
              | (go_at_call 79
                 refine (takes_any pA pn pc n px _ (((HI.out.grown HG.out (fun g e => by cases e)).grown HG2.out (fun g e => by cases e)).alloc _) (by omega) (by omega)).mono ?_
                 rintro e w3 ⟨rfl, hg3⟩
                 rw [HTK.out]
                 have HG3 := Lib.hid (gr_none (gr_alloc HG2.out _) hg3)
                 clear hg3)
              | fail)
            go_roundw
            case rel => exact ⟨i + 1, by omega, by go_num, by rw [HAND.out, HMN.out], by rw [HEN.out]; rfl, HG3.out⟩
            case measure => simp [intOf]; omega
        · obtain rfl : i = N := by omega
          have HAM := Lib.hid (show mTo ps n i = allM ps n by unfold mTo allM; rw [List.take_of_length_le (by rw [HL.out]; exact Nat.le_refl _)])
          have HAE := Lib.hid (show eTo ps n i = allE ps n by unfold eTo allE; rw [List.take_of_length_le (by rw [HL.out]; exact Nat.le_refl _)])
          rw [HAM.out, HAE.out]
          have hm1 : allM ps n < 4096 := allM_bd HR.out n 4095 (by omega)
          obtain ⟨M, hM⟩ : ∃ M, allM ps n = M := ⟨_, rfl⟩
          obtain ⟨E, hE⟩ : ∃ E, allE ps n = E := ⟨_, rfl⟩
          obtain ⟨f, hf⟩ : ∃ f, 31 - n = f + 1 := ⟨30 - n, by omega⟩
          have HS2 := Lib.hid (show (if E then (b, true) else if M = 0 then ([], false) else shF ps f (n + 1) (b ++ [firstS M])) = sharedL ps by
            rw [← HS.out, hf, shF, hM, hE])
          rw [hM, hE]
          rw [hM] at hm1
          have HF := Lib.hid hf
          have HGW := Lib.hid (gr_none HG.out HG2.out)
          have HW2 := Lib.hid (Own.kept HW.out HG2.out (fun g e => by cases e))
          clear hM hE hf
          cases E
          · by_cases hM0 : M = 0
            · subst hM0
              go_wp2_with fail
              go_ret2
              exact ⟨by rw [← HS2.out]; rfl, HGW.out⟩
            · have b1 : ((M : Int) == 0) = false := by rw [beq_eq_false_iff_ne]; omega
              have b1' : (M == 0) = false := by rw [beq_eq_false_iff_ne]; omega
              obtain ⟨t1, t2⟩ := tz_first hM0 hm1
              obtain ⟨z, hz⟩ : ∃ z, tzM M = z := ⟨_, rfl⟩
              rw [hz] at t1 t2
              have hzs : z < sg.size := by omega
              have hsz := HSG.out z hzs
              rw [t1] at hsz
              have HS3 := Lib.hid (show shF ps f (n + 1) (b ++ [firstS M]) = sharedL ps by rw [← HS2.out, if_neg (by simp), if_neg hM0])
              have hfb : firstS M < 256 := by
                unfold firstS
                cases hfd : sgn.find? (fun c => hasM M c) with
                | none => simp
                | some c => exact sgn_lt (List.mem_of_find?_eq_some hfd)
              generalize firstS M = q at *
              have HZ := Lib.hid hz
              have HM0 := Lib.hid hM0
              clear hz t1 HS2 hM0
              go_wp2_with (first
                | (go_at_call 80
                   refine (tz_any M _ ((HT.out.grown HG.out (by simp)).grown HG2.out (by simp)) HM0.out hm1).mono ?_
                   rintro e w3 ⟨rfl, rfl⟩
                   rw [HZ.out])
                | (at_builtin
                   refine wpl_app _ rfl _ _ Tryz.byteT rfl w.heap.size A1 n c1 _ rfl (by exact HW2.out.alloc _) _ _ 1 1 [.int .u8 q] rfl (by exact Reads.one _ _ _ _ rfl) (by simp [Value.oneCell']) (by unfold maxLen; omega) (by omega) (by simp; omega) ?_
                   intro A10 c10 w10 h10
                   have H10 := Lib.hid h10; clear h10)
                | fail)
              go_roundw
              case rel =>
                refine ⟨n + 1, f, b ++ [q], A10, n + 1, c10, rfl, by go_num, by omega, rfl, by have := HF.out; omega, ?_, ?_, ?_, ?_⟩
                · exact H10.out.gr (gr_alloc HGW.out _) (HW2.out.alloc _) (Nat.le_refl _)
                · rw [List.map_append]; exact H10.out.1
                · rw [List.length_append, HB.out]; rfl
                · exact HS3.out
              case measure => simp [intOf]; omega
          · have hcv := run_str (P := Tryz.prog) (src := 174) (dst := 9) (e := 5) Tryz.underlying174 Tryz.underlying5 Tryz.underlying9 (show Ints .u8 wr w.heap.size A1 n c1 (b.map (fun z : Nat => (z : Int))) by
              have := Own.reads HW2.out
              unfold Ints
              rw [List.map_map]
              exact this)
            rw [strI_nat] at hcv
            go_wp2_with fail
            go_ret2
            exact ⟨by rw [← HS2.out]; rfl, HGW.out⟩
    · obtain rfl : n = 31 := by omega
      go_wp2_with fail
      go_ret2
      exact ⟨by rw [← HS.out]; rfl, HG.out⟩
end
end Go.Proofs.YtpildcnoghojpaaGreatDoor
/- Contracts of Shared and Least. Conditions: none. -/
namespace Go.Proofs.YtpildcnoghojpaaGreatDoor
section
open Go.RowKit

theorem shpF_right {f : Nat} {l S : List Nat} {x : List Nat × Nat} (hS : ∀ M ∈ S, M < 4096) (h : shpF f l S = some x) : Right x := by
  induction f generalizing l S with
  | zero => cases h
  | succ f ih =>
    unfold shpF at h
    split at h
    · injection h with h; subst h; exact ⟨.inl rfl, hS⟩
    · rename_i h0
      split at h
      · rename_i h1
        injection h with h; subst h
        refine ⟨?_, hS⟩
        rcases h1 with rfl | rfl
        · exact .inr (.inl rfl)
        · exact .inr (.inr rfl)
      · split at h
        · cases h
        · rename_i M n he
          refine ih (fun M' hM => ?_) h
          rcases List.mem_append.1 hM with h3 | h3
          · exact hS M' h3
          · rw [List.mem_singleton.1 h3]; exact (elemL_bd he h0).2.2
theorem shpL_right {l : List Nat} {x : List Nat × Nat} (h : shpL l = some x) : Right x := by
  unfold shpL at h
  split at h
  · cases h
  · rename_i y e
    split at h
    · injection h with h; subst h; exact shpF_right (by simp) e
    · cases h
/-- What a pattern reads as; what is wrong with one. -/
def patX (l : List Nat) : Option (List Nat × Nat) := if l.length ≤ 60 then shpL l else none
def patF (l : List Nat) : Int := if 60 < l.length then 2 else if shpL l = none then 9 else 0
theorem patF_none {l : List Nat} (h : patX l = none) : patF l = 2 ∨ patF l = 9 := by
  unfold patX at h
  unfold patF
  split at h
  · rw [if_neg (by omega), if_pos h]; exact .inr rfl
  · rw [if_pos (by omega)]; exact .inl rfl
theorem patX_right {l : List Nat} {x : List Nat × Nat} (h : patX l = some x) : Right x := by
  unfold patX at h
  split at h
  · exact shpL_right h
  · cases h
def IsRd (lo : Nat) (l : List Nat) (v : Value) (w : World) : Prop :=
  (∃ (x : List Nat × Nat) (A : Option Addr) (n c : Nat), patX l = some x ∧ v = .tuple #[.agg #[.slice A n c, .int .u8 x.2], .int .i64 0] ∧ Ints .u16 w lo A n c (u16L x.1) ∧ n ≤ 30) ∨
  (patX l = none ∧ v = .tuple #[.agg #[.slice none 0 0, .int .u8 0], .int .i64 (patF l)])
theorem read_all (s : ByteArray) (w : World) : Calls Tryz.prog 51 #[.string s] w (RetP (IsRd w.heap.size (nb s)) w) := by
  by_cases hs : s.size ≤ 60
  · refine (read_any s w hs).mono ?_
    rintro e w' ⟨v, rfl, hv, hg⟩
    refine ⟨v, rfl, ?_, hg⟩
    have hx : patX (nb s) = shpL (nb s) := by unfold patX; rw [if_pos (by rw [nb_len]; exact hs)]
    rcases hv with ⟨x, A, n, c, h1, rfl, h3, h4⟩ | ⟨h1, rfl⟩
    · exact .inl ⟨x, A, n, c, by rw [hx]; exact h1, rfl, own_u16 h3, by have := Own.len h3; simp at this; omega⟩
    · refine .inr ⟨by rw [hx]; exact h1, ?_⟩
      unfold patF
      rw [if_neg (by rw [nb_len]; omega), if_pos h1]
  · refine (read_large s w (by omega)).mono ?_
    rintro e w' ⟨rfl, hg⟩
    refine ⟨_, rfl, .inr ⟨?_, ?_⟩, hg⟩
    · unfold patX; rw [if_neg (by rw [nb_len]; exact hs)]
    · unfold patF; rw [if_pos (by rw [nb_len]; omega)]
def leR (l : List Nat) : List Nat × Int := (patX l).elim ([], patF l) (fun P => ((sharedL [P]).1, 0))

theorem recs_lit {w : World} (l : List PatV) (n : Nat) (hn : l.length = n) {g : Nat} {cs : Array Value} (hg : w.heap.size = g) (hcs : cs = (l.flatMap patRow).toArray) : Recs patRow 2 (w.alloc (.cells cs 145)) 0 (some ⟨g, 0, none⟩) n n l := by
  subst hg; subst hcs
  exact ⟨(Reads.blk (Blk.new _ _ _) 2 n (by rw [flat_len patRow_len, hn])).lower (Nat.zero_le _), hn⟩
theorem PatOk.grown {w w' : World} {p : PatV} {row : Option Nat} (h : PatOk w p) (hg : w.grownBy w' row) (hr : row = none) : PatOk w' p := by
  subst hr
  exact ⟨h.1.grown hg (fun g e => by cases e), h.2⟩

set_option maxRecDepth 100000 in
set_option maxHeartbeats 4000000 in
theorem least_any (s : ByteArray) (w : World) (ht : DbT w) :
    Calls Tryz.prog 25 #[.string s] w (RetV (.tuple #[.string (strN (leR (nb s)).1), .int .i64 (leR (nb s)).2]) w) := by
  have HT := Lib.hid ht; clear ht
  obtain ⟨l, hl⟩ : ∃ l, nb s = l := ⟨_, rfl⟩
  have HL := Lib.hid hl
  rw [hl]; clear hl
  go_enter Tryz.func25, Tryz.ntmps25
  go_wp2_with fail
  refine (read_all s _).mono ?_
  rintro e w1 ⟨v1, rfl, hv1, hg1⟩
  rw [HL.out] at hv1
  have HG := Lib.hid hg1
  rcases hv1 with ⟨x, A, n, c, h1, rfl, h3, h4⟩ | ⟨h1, rfl⟩
  · have HR := Lib.hid (show leR l = ((sharedL [x]).1, 0) by unfold leR; rw [h1]; rfl)
    have HP := Lib.hid (show PatOk w1 ⟨A, n, c, x⟩ from ⟨h3.lower (Nat.zero_le _), h4, patX_right h1⟩)
    have HB := Lib.hid (Blk.new w1 145 #[.slice A n c, .int .u8 x.2])
    have HT1 := Lib.hid (HT.out.grown hg1 (by simp))
    clear h1 h3 h4 hg1
    go_wp2_with (first
      | (refine wpl_load_all Tryz.patT rfl _ rfl _ rfl _ _ HB.out rfl ?_)
      | (go_at_call 52
         refine (shared_any _ 1 1 [⟨A, n, c, x⟩] _ (recs_lit _ 1 rfl (by simp) rfl) (fun p hp => by rw [List.mem_singleton.1 hp]; exact (HP.out.grown (gr_alloc (gr_alloc (gr_refl _ none) _) _) rfl)) (by omega) (HT1.out.grown (gr_alloc (gr_alloc (gr_refl _ none) _) _) (by simp))).mono ?_
         rintro e w2 ⟨rfl, hg2⟩
         have HG2 := Lib.hid (gr_none (gr_alloc (gr_alloc HG.out _) _) hg2)
         clear hg2)
      | fail)
    go_ret2
    exact ⟨by rw [HR.out]; rfl, HG2.out⟩
  · have hf := patF_none h1
    have HR := Lib.hid (show leR l = ([], patF l) by unfold leR; rw [h1]; rfl)
    generalize patF l = z at *
    have b1 : (z != 0) = true := by rw [bne_iff_ne]; omega
    clear h1 hg1
    go_wp2_with fail
    go_ret2
    exact ⟨by rw [HR.out]; rfl, gr_alloc HG.out _⟩
end
end Go.Proofs.YtpildcnoghojpaaGreatDoor
/- planned is true. Conditions: the table of math/bits. -/
namespace Go.Proofs.YtpildcnoghojpaaGreatDoor
section
open Go.RowKit

theorem leR_n1 : leR (nb ⟨#[78, 49]⟩) = ([50, 49], 0) := by decide +kernel
theorem DbT.pos {w : World} (h : DbT w) : 0 < w.heap.size := World.block_lt_of_cell? w _ (h 0 (by omega))
end
end Go.Proofs.YtpildcnoghojpaaGreatDoor

/- Contracts of the numbers of packets, the program's and the document's. Conditions: none. -/
import Derived.Test.YtdknfhpconfhkaaPlay2
import Derived.Test.YtdknfhpconfhkaaSound
namespace Go.Proofs.Ytdknfhpconfhkaa
open Go.RowKit

theorem Reads.one' (w : World) (t : TypeId) (cs : List Value) (size : Nat) (h : cs.length = size) {g : Nat} (hg : w.heap.size = g) : Reads (w.alloc (.cells cs.toArray t)) g size (some ⟨g, 0, none⟩) 1 1 cs := by
  subst hg; exact Reads.one w t cs size h
/-- The number nearest to g that is low modulo 2^16; of two the greater one. -/
def nearN (g low : Int) : Int := if 32768 < (low - g) % 65536 then g + ((low - g) % 65536 - 65536) else g + (low - g) % 65536
theorem nearN_bd (g low : Int) : g - 32768 ≤ nearN g low ∧ nearN g low ≤ g + 32768 := by unfold nearN; split <;> omega

set_option maxHeartbeats 1000000 in
theorem near_any (g low : Int) (w : World) (g0 : 0 ≤ g) (g1 : g ≤ 1000000000000) (l0 : 0 ≤ low) (l1 : low ≤ 65535) : Calls Try.prog 95 #[.int .i64 g, .int .i64 low, .int .i64 65536] w (Same (.int .i64 (nearN g low)) w) := by
  have hm := mask16 (low - g)
  obtain ⟨m, hm'⟩ : ∃ m, (low - g) % 65536 = m := ⟨_, rfl⟩
  rw [hm'] at hm
  have m0 : 0 ≤ m := by omega
  have m1 : m < 65536 := by omega
  have HM := Lib.hid hm'; clear hm'
  by_cases hd : 32768 < m
  all_goals
    go_enter Try.func95, Try.ntmps95
    go_wp2
    go_ret
    exact ⟨ret_i (by unfold nearN; rw [HM.out]; split <;> omega), rfl⟩

theorem near_as (g low x : Int) (w : World) (g0 : 0 ≤ g) (g1 : g ≤ 1000000000000) (l0 : 0 ≤ low) (l1 : low ≤ 65535) (h : nearN g low = x) : Calls Try.prog 95 #[.int .i64 g, .int .i64 low, .int .i64 65536] w (Same (.int .i64 x) w) := by
  subst h; exact near_any g low w g0 g1 l0 l1
/-- The long numbers of the first arrivals, and the greatest of them. -/
def numTo (l : List ArrV) : Nat → List Int × Int
  | 0 => ([], 0)
  | i + 1 => match l[i]? with
    | some a => ((numTo l i).1 ++ [if i = 0 then a.sq + 65536 else nearN (numTo l i).2 a.sq], max (numTo l i).2 (if i = 0 then a.sq + 65536 else nearN (numTo l i).2 a.sq))
    | none => numTo l i
def nums (l : List ArrV) : List Int := (numTo l l.length).1
theorem numTo_succ {l : List ArrV} {i : Nat} {a : ArrV} {out : List Int} {g : Int} (ha : l[i]? = some a) (h : numTo l i = (out, g)) (hi : 0 < i) : numTo l (i + 1) = (out ++ [nearN g a.sq], max g (nearN g a.sq)) := by
  rw [numTo, ha]; simp only; rw [h, if_neg (by omega)]
theorem numTo_first {l : List ArrV} {a : ArrV} (ha : l[0]? = some a) : numTo l 1 = ([a.sq + 65536], max 0 (a.sq + 65536)) := by
  simp [numTo, ha]
theorem numTo_bd {l : List ArrV} (hl : ∀ a ∈ l, 0 ≤ a.sq ∧ a.sq ≤ 65535) (i : Nat) (hi : i ≤ l.length) : (numTo l i).1.length = i ∧ 0 ≤ (numTo l i).2 ∧ (numTo l i).2 ≤ 131071 + 32768 * i ∧ (0 < i → 65536 ≤ (numTo l i).2) ∧ ∀ x ∈ (numTo l i).1, 0 ≤ x ∧ x ≤ (numTo l i).2 := by
  induction i with
  | zero => simp [numTo]
  | succ i ih =>
    obtain ⟨h1, h2, h3, h4, h5⟩ := ih (by omega)
    have ha : l[i]? = some l[i] := List.getElem?_eq_getElem (by omega)
    have hb := hl _ (mem_of_get ha)
    rw [numTo, ha]
    simp only
    generalize numTo l i = st at *
    obtain ⟨out, g⟩ := st
    dsimp only at *
    by_cases h0 : i = 0
    · subst h0
      rw [if_pos rfl]
      have ho : out = [] := List.eq_nil_of_length_eq_zero h1
      subst ho
      refine ⟨by simp, by omega, by omega, fun _ => by omega, fun x hx => ?_⟩
      simp at hx
      omega
    · rw [if_neg h0]
      have hn := nearN_bd g l[i].sq
      have := h4 (by omega)
      refine ⟨by simp [h1], by omega, by omega, fun _ => by omega, fun x hx => ?_⟩
      rcases List.mem_append.1 hx with hx | hx
      · have := h5 x hx; omega
      · rw [List.mem_singleton.1 hx]; omega

set_option maxRecDepth 100000 in
set_option maxHeartbeats 8000000 in
theorem numbers_any (lo : Nat) (A : Option Addr) (n c : Nat) (l : List ArrV) (w : World) (h : Arrs w lo A n c l) (hf : arrFault l = 0) :
    Calls Try.prog 78 #[.slice A n c] w (RetP (IsOut .i64 w.heap.size (nums l)) w) := by
  have H := Lib.hid h; clear h
  have HOK := Lib.hid (arr_ok hf); clear hf
  have hn2 : n ≤ 2000 := by have := HOK.out.1; have := H.out.1.len; omega
  have HB := Lib.hid (numTo_bd (l := l) (fun a ha => (HOK.out.2 a ha).2.1))
  go_enter Try.func78, Try.ntmps78
  go_wp2_with fail
  go_loopw [3, 4, 5, 6, 7, 10] (fun v s4 _ _ _ t wr => ∃ (i : Nat) (A' : Option Addr) (c' : Nat) (out : List Int) (g : Int), i ≤ n ∧ t = .int .i64 i ∧ v = .slice A' i c' ∧ s4 = .int .i64 g ∧ numTo l i = (out, g) ∧ w.grownBy wr none ∧ OwnI wr w.heap.size A' i c' out) (fun _ _ _ _ _ t _ => n - (intOf t).toNat)
  case atStart => exact ⟨0, none, 0, [], 0, Nat.zero_le _, rfl, rfl, rfl, rfl, gr_refl _ _, Own.nil _ _ _ _⟩
  case round =>
    obtain ⟨i, A', c', out, gr, hi, rfl, rfl, rfl, hst, hg, ho⟩ := hrel
    have hbd := HB.out i (by rw [H.out.1.len]; exact hi)
    rw [hst] at hbd
    obtain ⟨_, b1, b2, b3, _⟩ := hbd
    dsimp only at b1 b2 b3
    have zr := hg.size
    have HST := Lib.hid hst; have HG := Lib.hid hg; have HO := Lib.hid ho
    clear hst hg ho
    by_cases hlt : i < n
    · obtain ⟨g, o, ⟨zat, zty, zsq, ztm, zsr, zmk, zA, zn, zc, zpay⟩, rfl, _, hgl, hz, hc⟩ := (H.out.1.grown HG.out (fun g e => by cases e)).get ArrV.row_len hlt
      have zok := (HOK.out.2 _ (mem_of_get hz)).2.1
      dsimp only at zok
      obtain ⟨z0, z1⟩ := zok
      have HZ := Lib.hid hz; have HC := Lib.hid hc
      clear hz hc
      by_cases h0 : 0 < i
      · have hi0 : decide ((0 : Int) < (i : Int)) = true := by simpa using h0
        have hnb := nearN_bd gr zsq
        obtain ⟨x, hx⟩ : ∃ x, nearN gr zsq = x := ⟨_, rfl⟩
        rw [hx] at hnb
        obtain ⟨nb0, nb1⟩ := hnb
        have HX := Lib.hid hx; clear hx
        have b4 := b3 h0
        clear b3
        by_cases hmx : x ≤ gr
        · go_wp2_with (first
            | (refine wpl_load_at Try.arrT rfl _ rfl _ rfl [.int .i64 zat, .int .i64 zty, .int .i64 zsq, .int .i64 ztm, .int .i64 zsr, .bool zmk, .slice zA zn zc] rfl (fun j u hu => by rw [add_mk]; exact HC.out j u hu) ?_)
            | (go_at_call 95; refine (near_as gr zsq x _ b1 (by omega) z0 z1 HX.out).mono ?_; rintro e w' ⟨rfl, rfl⟩)
            | (at_builtin
               refine wpl_app _ rfl _ _ Try.intT rfl w.heap.size A' i c' _ rfl (by exact Own.alloc (Own.alloc HO.out _) _) _ _ 1 1 [.int .i64 x] rfl (by exact Reads.one' _ _ _ _ rfl (by simp)) (by simp [Value.oneCell']) (by unfold maxLen; omega) (by omega) (by simp; omega) ?_
               intro A11 c11 w11 h11
               have H11 := Lib.hid h11; clear h11)
            | fail)
          go_roundw
          case rel =>
            refine ⟨i + 1, A11, c11, out ++ [x], gr, by omega, by go_num, rfl, rfl, ?_, H11.out.gr (gr_alloc (gr_alloc HG.out _) _) (Own.alloc (Own.alloc HO.out _) _) (Nat.le_refl _), ?_⟩
            · rw [numTo_succ HZ.out HST.out h0]
              dsimp only
              rw [HX.out, show max gr x = gr by omega]
            · unfold OwnI; rw [List.map_append]; exact H11.out.1
          case measure => simp [intOf]; omega
        · go_wp2_with (first
            | (refine wpl_load_at Try.arrT rfl _ rfl _ rfl [.int .i64 zat, .int .i64 zty, .int .i64 zsq, .int .i64 ztm, .int .i64 zsr, .bool zmk, .slice zA zn zc] rfl (fun j u hu => by rw [add_mk]; exact HC.out j u hu) ?_)
            | (go_at_call 95; refine (near_as gr zsq x _ b1 (by omega) z0 z1 HX.out).mono ?_; rintro e w' ⟨rfl, rfl⟩)
            | (at_builtin
               refine wpl_app _ rfl _ _ Try.intT rfl w.heap.size A' i c' _ rfl (by exact Own.alloc (Own.alloc HO.out _) _) _ _ 1 1 [.int .i64 x] rfl (by exact Reads.one' _ _ _ _ rfl (by simp)) (by simp [Value.oneCell']) (by unfold maxLen; omega) (by omega) (by simp; omega) ?_
               intro A11 c11 w11 h11
               have H11 := Lib.hid h11; clear h11)
            | fail)
          go_roundw
          case rel =>
            refine ⟨i + 1, A11, c11, out ++ [x], x, by omega, by go_num, rfl, rfl, ?_, H11.out.gr (gr_alloc (gr_alloc HG.out _) _) (Own.alloc (Own.alloc HO.out _) _) (Nat.le_refl _), ?_⟩
            · rw [numTo_succ HZ.out HST.out h0]
              dsimp only
              rw [HX.out, show max gr x = x by omega]
            · unfold OwnI; rw [List.map_append]; exact H11.out.1
          case measure => simp [intOf]; omega
      · have h00 : i = 0 := by omega
        have hi0 : decide ((0 : Int) < (i : Int)) = false := by simpa using h0
        have hgr : gr = 0 := by have h := HST.out; rw [h00] at h; simp only [numTo, Prod.mk.injEq] at h; exact Eq.symm h.2
        have hout : out = [] := by have h := HST.out; rw [h00] at h; simp only [numTo, Prod.mk.injEq] at h; exact Eq.symm h.1
        have H00 := Lib.hid h00; clear h00
        subst hgr; subst hout
        go_wp2_with (first
          | (refine wpl_load_at Try.arrT rfl _ rfl _ rfl [.int .i64 zat, .int .i64 zty, .int .i64 zsq, .int .i64 ztm, .int .i64 zsr, .bool zmk, .slice zA zn zc] rfl (fun j u hu => by rw [add_mk]; exact HC.out j u hu) ?_)
          | (at_builtin
             refine wpl_app _ rfl _ _ Try.intT rfl w.heap.size A' i c' _ rfl (by exact Own.alloc (Own.alloc HO.out _) _) _ _ 1 1 [.int .i64 (zsq + 65536)] rfl (by exact Reads.one' _ _ _ _ rfl (by simp)) (by simp [Value.oneCell']) (by unfold maxLen; omega) (by omega) (by simp; omega) ?_
             intro A11 c11 w11 h11
             have H11 := Lib.hid h11; clear h11)
          | fail)
        go_roundw
        case rel =>
          refine ⟨i + 1, A11, c11, [zsq + 65536], zsq + 65536, by omega, by go_num, rfl, rfl, ?_, H11.out.gr (gr_alloc (gr_alloc HG.out _) _) (Own.alloc (Own.alloc HO.out _) _) (Nat.le_refl _), H11.out.1⟩
          have hz' := HZ.out
          rw [H00.out] at hz' ⊢
          rw [numTo_first hz']
          dsimp only
          rw [show max 0 (zsq + 65536) = zsq + 65536 by omega]
        case measure => simp [intOf]; omega
    · obtain rfl : i = n := by omega
      go_wp2_with fail
      go_ret
      refine ⟨_, rfl, ⟨_, _, _, rfl, ?_⟩, HG.out⟩
      unfold nums
      rw [H.out.1.len, HST.out]
      exact Own.reads HO.out
end Go.Proofs.Ytdknfhpconfhkaa

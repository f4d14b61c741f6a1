/- Contracts of Mix, the program's and the document's. Conditions: none. -/
import Derived.Test.YtdknfhpconfhkaaMix
namespace Go.Proofs.Ytdknfhpconfhkaa
open Go.RowKit

/-- A sound, as it lies in memory. -/
structure SndV where
  A : Option Addr
  n : Nat
  c : Nat
  l : List Int
def SndV.val (s : SndV) : Value := .slice s.A s.n s.c
def Snds (w : World) (lo : Nat) (A : Option Addr) (n c : Nat) (ss : List SndV) : Prop := Reads w lo 1 A n c (ss.map SndV.val) ∧ ∀ s ∈ ss, Ints .i64 w lo s.A s.n s.c s.l
theorem Snds.len {w : World} {lo : Nat} {A : Option Addr} {n c : Nat} {ss : List SndV} (h : Snds w lo A n c ss) : ss.length = n := by have := h.1.len; simpa using this
theorem Snds.grown {w w' : World} {lo : Nat} {A : Option Addr} {n c : Nat} {ss : List SndV} (h : Snds w lo A n c ss) {r : Option Nat} (hg : w.grownBy w' r) (hr : ∀ g, r = some g → g < lo) : Snds w' lo A n c ss := ⟨h.1.grown hg hr, fun s hs => (h.2 s hs).grown hg hr⟩
theorem Snds.get {w : World} {lo : Nat} {A : Option Addr} {n c i : Nat} {ss : List SndV} (h : Snds w lo A n c ss) (hi : i < n) : ∃ g o s, A = some ⟨g, o, none⟩ ∧ g < w.heap.size ∧ ss[i]? = some s ∧ w.cell? ⟨g, o + i, none⟩ = some (.slice s.A s.n s.c) ∧ Ints .i64 w lo s.A s.n s.c s.l := by
  obtain ⟨g, o, u, e, _, hb, hx, hc⟩ := h.1.at_ hi
  have hl : i < ss.length := by rw [h.len]; exact hi
  have hs : ss[i]? = some ss[i] := List.getElem?_eq_getElem hl
  rw [List.getElem?_map, hs] at hx
  injection hx with hx
  exact ⟨g, o, ss[i], e, hb, hs, by rw [hc, ← hx]; rfl, h.2 _ (List.getElem_mem hl)⟩

/-! Rows as functions of the place. -/
def tab (N : Nat) (f : Nat → Int) : List Int := (List.range N).map f
theorem tab_len (N : Nat) (f : Nat → Int) : (tab N f).length = N := by simp [tab]
theorem tab_get {N j : Nat} (f : Nat → Int) (h : j < N) : (tab N f)[j]? = some (f j) := by simp [tab, h]
theorem tab_congr {N : Nat} {f g : Nat → Int} (h : ∀ j, j < N → f j = g j) : tab N f = tab N g := List.map_congr_left fun j hj => h j (List.mem_range.1 hj)
theorem tab_succ (N : Nat) (f : Nat → Int) : tab (N + 1) f = tab N f ++ [f N] := by simp [tab, List.range_succ]
theorem tab_set (N k : Nat) (f : Nat → Int) (v : Int) : (tab N f).set k v = tab N (fun j => if j = k then v else f j) := by
  apply List.ext_getElem?
  intro j
  rw [List.getElem?_set]
  by_cases hj : j < N
  · rw [tab_get (fun j => if j = k then v else f j) hj]
    by_cases hk : k = j
    · subst hk; rw [if_pos rfl, if_pos (by rw [tab_len]; exact hj), if_pos rfl]
    · rw [if_neg hk, if_neg (fun e => hk (Eq.symm e)), tab_get _ hj]
  · rw [List.getElem?_eq_none (l := tab N fun j => if j = k then v else f j) (by rw [tab_len]; omega)]
    by_cases hk : k = j
    · subst hk; rw [if_pos rfl, if_neg (by rw [tab_len]; exact hj)]
    · rw [if_neg hk, List.getElem?_eq_none (by rw [tab_len]; omega)]
theorem tab_zero (N : Nat) : List.replicate N (0 : Int) = tab N (fun _ => 0) := by simp [tab, List.map_const']

def mixS (ss : List SndV) : Nat → Nat → Int
  | 0, _ => 0
  | i + 1, j => match (ss[i]?).bind (fun s => s.l[j]?) with | some z => wrap64 (mixS ss i j + z) | none => mixS ss i j
def maxTo (ss : List SndV) : Nat → Nat
  | 0 => 0
  | i + 1 => max (maxTo ss i) (match ss[i]? with | some s => s.l.length | none => 0)
def mixOf (ss : List SndV) : List Int := tab (maxTo ss ss.length) (fun j => cutS (mixS ss ss.length j))
def sFault (ss : List SndV) (i : Nat) : Int := match ss[i]? with | some s => smpFault s.l | none => 0
theorem sFault_at {ss : List SndV} {i : Nat} {s : SndV} (h : ss[i]? = some s) : sFault ss i = smpFault s.l := by unfold sFault; rw [h]
def mixFault (ss : List SndV) : Int := if ss.length > 20 then 2 else firstNZ (sFault ss) ss.length
theorem maxTo_succ {ss : List SndV} {i : Nat} {s : SndV} (h : ss[i]? = some s) : maxTo ss (i + 1) = max (maxTo ss i) s.l.length := by rw [maxTo, h]
theorem mixS_zero {ss : List SndV} {i j : Nat} (h : maxTo ss i ≤ j) : mixS ss i j = 0 := by
  induction i with
  | zero => rfl
  | succ i ih =>
    rw [maxTo] at h
    rw [mixS]
    cases hs : ss[i]? with
    | none => exact ih (by omega)
    | some s =>
      rw [hs] at h
      simp only at h
      rw [show (some s).bind (fun s => s.l[j]?) = none from List.getElem?_eq_none (by omega)]
      exact ih (by omega)
theorem mixS_in {ss : List SndV} {i j : Nat} {s : SndV} {z : Int} (hs : ss[i]? = some s) (hz : s.l[j]? = some z) : mixS ss (i + 1) j = wrap64 (mixS ss i j + z) := by
  rw [mixS, hs, show (some s).bind (fun s => s.l[j]?) = some z from hz]
theorem mixS_out {ss : List SndV} {i j : Nat} {s : SndV} (hs : ss[i]? = some s) (hj : s.l.length ≤ j) : mixS ss (i + 1) j = mixS ss i j := by
  rw [mixS, hs, show (some s).bind (fun s => s.l[j]?) = none from List.getElem?_eq_none hj]
theorem maxTo_mono {ss : List SndV} {i n : Nat} (h : i ≤ n) : maxTo ss i ≤ maxTo ss n := by
  induction n with
  | zero => have : i = 0 := by omega
            subst this; exact Nat.le_refl _
  | succ n ih =>
    by_cases e : i = n + 1
    · subst e; exact Nat.le_refl _
    · have := ih (by omega); rw [maxTo]; omega
theorem maxTo_ge {ss : List SndV} {i : Nat} {s : SndV} (hs : ss[i]? = some s) : s.l.length ≤ maxTo ss ss.length := by
  have h1 := (List.getElem?_eq_some_iff.1 hs).1
  have h2 := maxTo_mono (ss := ss) (show i + 1 ≤ ss.length by omega)
  rw [maxTo_succ hs] at h2
  omega
theorem maxTo_le {ss : List SndV} {B : Nat} (h : ∀ s ∈ ss, s.l.length ≤ B) (i : Nat) : maxTo ss i ≤ B := by
  induction i with
  | zero => exact Nat.zero_le _
  | succ i ih =>
    rw [maxTo]
    cases hs : ss[i]? with
    | none => simp only; omega
    | some s => have := h s (mem_of_get hs); simp only; omega
theorem mix_ok {ss : List SndV} (h : mixFault ss = 0) : ss.length ≤ 20 ∧ ∀ s ∈ ss, smpFault s.l = 0 := by
  unfold mixFault at h
  split at h
  · omega
  · refine ⟨by omega, fun s hs => ?_⟩
    obtain ⟨i, hi, rfl⟩ := List.getElem_of_mem hs
    have := firstNZ_all h i hi
    rw [sFault_at (List.getElem?_eq_getElem hi)] at this
    exact this

/-- A row of the call's own, as a function of the place. -/
def TabOwn (w : World) (A : Option Addr) (q c : Nat) (f : Nat → Int) (wr : World) : Prop := w.grownBy wr none ∧ Own wr w.heap.size 3 1 A q c ((tab q f).map (Value.int .i64))
section
variable {w wr wr' : World} {A : Option Addr} {q c : Nat} {f g : Nat → Int}
theorem TabOwn.congr (h : TabOwn w A q c f wr) (e : ∀ j, j < q → f j = g j) : TabOwn w A q c g wr := ⟨h.1, by rw [← tab_congr e]; exact h.2⟩
theorem TabOwn.get (h : TabOwn w A q c f wr) {k : Nat} (hk : k < q) : ∃ b, A = some ⟨b, 0, none⟩ ∧ w.heap.size ≤ b ∧ b < wr.heap.size ∧ wr.cell? ⟨b, k, none⟩ = some (.int .i64 (f k)) ∧ wr.frozen? ⟨b, k, none⟩ = false := by
  obtain ⟨b, rfl, h1, h2⟩ := h.2.pos (by omega)
  exact ⟨b, rfl, h1, h2, by rw [h.2.cell (by omega), List.getElem?_map, tab_get _ hk]; rfl, h.2.frozen k⟩
theorem TabOwn.set {b : Nat} (h : TabOwn w (some ⟨b, 0, none⟩) q c f wr) (hb : w.heap.size ≤ b) (k : Nat) (v : Int) : TabOwn w (some ⟨b, 0, none⟩) q c (fun j => if j = k then v else f j) (wr.setCell ⟨b, k, none⟩ (.int .i64 v)) := by
  refine ⟨gr_setCell h.1 (.inr hb) _, ?_⟩
  have := h.2.stored k (.int .i64 v)
  rw [← List.map_set, tab_set] at this
  exact this
theorem TabOwn.append (h : TabOwn w A q c f wr) {o : Obj} {A1 : Option Addr} {c1 : Nat} (h1 : Appended (wr.alloc o) w.heap.size 3 1 A A1 (q + 1) c1 ((tab q f).map (Value.int .i64) ++ [.int .i64 (f q)]) wr') : TabOwn w A1 (q + 1) c1 f wr' := by
  refine ⟨h1.gr (gr_alloc h.1 _) (h.2.alloc _) (Nat.le_refl _), ?_⟩
  rw [tab_succ, List.map_append]
  exact h1.1
theorem TabOwn.made (w : World) (N : Nat) (h : N ≤ maxLen) : TabOwn w (some ⟨w.heap.size, 0, none⟩) N N (fun _ => 0) (w.alloc (.cells (Array.replicate N (.int .i64 0)) 3)) := by
  refine ⟨gr_alloc (gr_refl _ _) _, ?_⟩
  rw [← tab_zero, List.map_replicate]
  exact Own.made w 3 (.int .i64 0) N h
theorem TabOwn.nil (w : World) (f : Nat → Int) : TabOwn w none 0 0 f w := ⟨gr_refl _ _, Own.nil _ _ _ _⟩
end

def mixStep (ss : List SndV) (i k j : Nat) : Int := if j < k then mixS ss (i + 1) j else mixS ss i j
def cutStep (f : Nat → Int) (k j : Nat) : Int := if j < k then cutS (f j) else f j

theorem cut_next {f : Nat → Int} {q : Nat} {x : Int} {m : Nat} (hx : f q = x) (j : Nat) (_ : j < m) : (if j = q then cutS x else cutStep f q j) = cutStep f (q + 1) j := by
  unfold cutStep
  by_cases hjq : j = q
  · subst hjq; rw [if_pos rfl, if_pos (by omega), hx]
  · rw [if_neg hjq]
    by_cases hj2 : j < q
    · rw [if_pos hj2, if_pos (by omega)]
    · rw [if_neg hj2, if_neg (by omega)]

theorem mix_next {ss : List SndV} {k q m : Nat} {v : Int} (e : mixS ss (k + 1) q = v) (j : Nat) (_ : j < m) : (if j = q then v else mixStep ss k q j) = mixStep ss k (q + 1) j := by
  unfold mixStep
  by_cases hjq : j = q
  · subst hjq; rw [if_pos rfl, if_pos (by omega), e]
  · rw [if_neg hjq]
    by_cases hj2 : j < q
    · rw [if_pos hj2, if_pos (by omega)]
    · rw [if_neg hj2, if_neg (by omega)]

set_option maxRecDepth 100000 in
set_option maxHeartbeats 8000000 in
theorem mix_good (lo : Nat) (A : Option Addr) (n c : Nat) (ss : List SndV) (w : World) (h : Snds w lo A n c ss) (hf : mixFault ss = 0) :
    Calls Try.prog 40 #[.slice A n c] w (RetP (IsOutErr .i64 w.heap.size (mixOf ss) 0) w) := by
  have H := Lib.hid h; clear h
  have HOK := Lib.hid (mix_ok hf)
  have hn2 : n ≤ 20 := by have := HOK.out.1; have := H.out.len; omega
  clear hf
  obtain ⟨N, hN⟩ : ∃ N, maxTo ss n = N := ⟨_, rfl⟩
  have hN1 : N ≤ 20000 := by rw [← hN]; exact maxTo_le (fun s hs => (smp_ok (HOK.out.2 s hs)).1) n
  have HN := Lib.hid hN; clear hN
  have hmk := run_make1 Try.intT N rfl (by omega) (by omega)
  have hb' : decide ((20 : Int) < (n : Int)) = false := by simp; omega
  go_enter Try.func40, Try.ntmps40
  go_wp2_with fail
  go_loop [4, 6, 7, 19] (fun v _ _ t => ∃ (i : Nat) (m : Nat), i ≤ n ∧ t = .int .i64 i ∧ v = .int .i64 m ∧ maxTo ss i = m) (fun _ _ _ t => n - (intOf t).toNat)
  case atStart => exact ⟨0, 0, Nat.zero_le _, rfl, rfl, rfl⟩
  case round =>
    obtain ⟨i, m, hi, rfl, rfl, hm⟩ := hrel
    have HM := Lib.hid hm; clear hm
    by_cases hlt : i < n
    · obtain ⟨g, o, ⟨sA, sn, sc, sl⟩, rfl, _, hs, hc, hi2⟩ := H.out.get hlt
      have hf0 := HOK.out.2 _ (mem_of_get hs)
      dsimp only at hf0 hc hi2
      have hsn := (smp_ok hf0).1
      have hsl := hi2.len
      have hsn2 : sn ≤ 20000 := by omega
      have hfb : (smpFault sl != 0) = false := by simpa using hf0
      have HS := Lib.hid hs; have HI := Lib.hid hi2; have HSL := Lib.hid hsl
      clear hs hi2 hf0 hsl hsn
      by_cases hmx : sn ≤ m
      · go_wp2_with (first
          | (go_at_call 29; refine (checkSamples_any lo _ _ _ sl _ HI.out (by omega)).mono ?_; rintro e w' ⟨rfl, rfl⟩)
          | fail)
        go_round
        case rel => exact ⟨i + 1, m, by omega, by go_num, by go_num, by rw [maxTo_succ HS.out, HM.out]; dsimp only; rw [HSL.out]; omega⟩
        case measure => simp [intOf]; omega
      · go_wp2_with (first
          | (go_at_call 29; refine (checkSamples_any lo _ _ _ sl _ HI.out (by omega)).mono ?_; rintro e w' ⟨rfl, rfl⟩)
          | fail)
        go_round
        case rel => exact ⟨i + 1, sn, by omega, by go_num, by go_num, by rw [maxTo_succ HS.out, HM.out]; dsimp only; rw [HSL.out]; omega⟩
        case measure => simp [intOf]; omega
    · obtain rfl : i = n := by omega
      obtain rfl : m = N := by rw [← HM.out, HN.out]
      go_wp2_with fail
      clear hmk
      go_loopw [10, 11, 12, 37] (fun _ _ _ t wr => ∃ k : Nat, k ≤ i ∧ t = .int .i64 k ∧ TabOwn w (some ⟨w.heap.size, 0, none⟩) m m (mixS ss k) wr) (fun _ _ _ t _ => i - (intOf t).toNat)
      case atStart => exact ⟨0, Nat.zero_le _, rfl, (TabOwn.made w m (by unfold maxLen; omega)).congr (fun j _ => rfl)⟩
      case round =>
        obtain ⟨k, hk, rfl, hT⟩ := hrel
        have HT := Lib.hid hT; clear hT
        by_cases hlt2 : k < i
        · obtain ⟨g, o, ⟨sA, sn, sc, sl⟩, rfl, _, hs, hc, hi2⟩ := (H.out.grown HT.out.1 (fun g e => by cases e)).get hlt2
          dsimp only at hc hi2
          have hsm : sn ≤ m := by have h := maxTo_ge hs; rw [H.out.len, HN.out] at h; have := hi2.len; dsimp only at h; omega
          have HS := Lib.hid hs; have HI := Lib.hid ((H.out.2 _ (mem_of_get hs)))
          clear hs hi2
          obtain ⟨wo, rfl⟩ : ∃ wo : World, wo = wr := ⟨_, rfl⟩
          go_wp2_with fail
          go_loopw [11, 12, 43] (fun _ _ t wr => ∃ q : Nat, q ≤ sn ∧ t = .int .i64 q ∧ TabOwn w (some ⟨w.heap.size, 0, none⟩) m m (mixStep ss k q) wr) (fun _ _ t _ => sn - (intOf t).toNat)
          case atStart => exact ⟨0, Nat.zero_le _, rfl, HT.out.congr (fun j _ => by simp [mixStep])⟩
          case round =>
            obtain ⟨q, hq, rfl, hT2⟩ := hrel
            have HT2 := Lib.hid hT2; clear hT2
            by_cases hlt3 : q < sn
            · obtain ⟨g2, o2, z, rfl, _, _, hz, hcz⟩ := (HI.out.grown HT2.out.1 (fun g e => by cases e)).get hlt3
              obtain ⟨b, hbb, _, _, hcb, hfb⟩ := HT2.out.get (show q < m by omega)
              injection hbb with hbb
              injection hbb with hbb
              subst hbb
              rw [show mixStep ss k q q = mixS ss k q from by simp [mixStep]] at hcb
              obtain ⟨x, hx⟩ : ∃ x, mixS ss k q = x := ⟨_, rfl⟩
              rw [hx] at hcb
              have HX := Lib.hid hx; have HZ := Lib.hid hz; clear hx hz
              have j0 : (0 : Int) ≤ (q : Int) := by omega
              have j1 : (q : Int) < (m : Int) := by omega
              go_wp2_with fail
              go_roundw
              case rel =>
                refine ⟨q + 1, by omega, by go_num, (HT2.out.set (Nat.le_refl _) q (wrap64 (x + z))).congr (fun j _ => ?_)⟩
                have e : mixS ss (k + 1) q = wrap64 (x + z) := by rw [mixS_in HS.out HZ.out, HX.out]
                unfold mixStep
                by_cases hjq : j = q
                · subst hjq; rw [if_pos rfl, if_pos (by omega), e]
                · rw [if_neg hjq]
                  by_cases hj2 : j < q
                  · rw [if_pos hj2, if_pos (by omega)]
                  · rw [if_neg hj2, if_neg (by omega)]
              case measure => simp [intOf]; omega
            · obtain rfl : q = sn := by omega
              have HSL := Lib.hid HI.out.len
              go_wp2_with fail
              go_roundw
              case rel =>
                refine ⟨k + 1, by omega, by go_num, HT2.out.congr (fun j _ => ?_)⟩
                unfold mixStep
                by_cases hj2 : j < q
                · rw [if_pos hj2]
                · rw [if_neg hj2, mixS_out HS.out (by dsimp only; rw [HSL.out]; omega)]
              case measure => simp [intOf]; omega
        · obtain rfl : k = i := by omega
          obtain ⟨wo, rfl⟩ : ∃ wo : World, wo = wr := ⟨_, rfl⟩
          go_wp2_with fail
          go_loopw [13, 59] (fun _ t wr => ∃ q : Nat, q ≤ m ∧ t = .int .i64 q ∧ TabOwn w (some ⟨w.heap.size, 0, none⟩) m m (cutStep (mixS ss k) q) wr) (fun _ t _ => m - (intOf t).toNat)
          case atStart => exact ⟨0, Nat.zero_le _, rfl, HT.out.congr (fun j _ => by simp [cutStep])⟩
          case round =>
            obtain ⟨q, hq, rfl, hT2⟩ := hrel
            have HT2 := Lib.hid hT2; clear hT2
            by_cases hlt3 : q < m
            · obtain ⟨b, hbb, _, _, hcb, hfb⟩ := HT2.out.get hlt3
              injection hbb with hbb
              injection hbb with hbb
              subst hbb
              rw [show cutStep (mixS ss k) q q = mixS ss k q from by simp [cutStep]] at hcb
              obtain ⟨x, hx⟩ : ∃ x, mixS ss k q = x := ⟨_, rfl⟩
              rw [hx] at hcb
              have HX := Lib.hid hx; clear hx
              have j0 : (0 : Int) ≤ (q : Int) := by omega
              have j1 : (q : Int) < (m : Int) := by omega
              go_wp2_with (first
                | (go_at_call 76; refine (mcut_any x _).mono ?_; rintro e w' ⟨rfl, rfl⟩)
                | fail)
              go_roundw
              case rel => exact ⟨q + 1, by omega, by go_num, (HT2.out.set (Nat.le_refl _) q (cutS x)).congr (cut_next HX.out)⟩
              case measure => simp [intOf]; omega
            · obtain rfl : q = m := by omega
              go_wp2_with fail
              go_ret2
              refine ⟨_, rfl, ⟨_, _, _, rfl, ?_⟩, HT2.out.1⟩
              unfold mixOf
              rw [H.out.len, HN.out, ← tab_congr (f := cutStep (mixS ss k) q) (fun j hj => by unfold cutStep; rw [if_pos hj])]
              exact HT2.out.2.reads
end Go.Proofs.Ytdknfhpconfhkaa

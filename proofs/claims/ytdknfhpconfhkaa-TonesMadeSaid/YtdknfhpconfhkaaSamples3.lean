/- Contracts of Small and Great. Conditions: none. -/
import Derived.Test.YtdknfhpconfhkaaSamples2
import Derived.Test.YtdknfhpconfhkaaPackets
namespace Go.Proofs.Ytdknfhpconfhkaa
open Go.RowKit

theorem fill_set {α : Type} (F : List α) (d x : α) (m : Nat) : (F ++ List.replicate (m + 1) d).set F.length x = (F ++ [x]) ++ List.replicate m d := by
  simp [List.replicate_succ]

/-- A row of n places, the first i of which are filled with f. -/
def Filled (k : IntKind) (e : TypeId) (f : Int → Int) (w : World) (lo g n : Nat) (l : List Int) (i : Nat) (wr : World) : Prop :=
  w.grownBy wr none ∧ Own wr lo e 1 (some ⟨g, 0, none⟩) n n (((l.take i).map f ++ List.replicate (n - i) 0).map (Value.int k))

theorem Filled.next {k : IntKind} {e : TypeId} {f : Int → Int} {w wr : World} {lo g n i : Nat} {l : List Int} {z : Int} (h : Filled k e f w lo g n l i wr) (hg : w.heap.size ≤ g) (hl : l.length = n) (hz : l[i]? = some z) :
    Filled k e f w lo g n l (i + 1) (wr.setCell ⟨g, i, none⟩ (.int k (f z))) := by
  obtain ⟨h1, h2⟩ := h
  refine ⟨gr_setCell h1 (.inr hg) _, ?_⟩
  have hi : i < n := by obtain ⟨h, _⟩ := List.getElem?_eq_some_iff.1 hz; omega
  have h3 := h2.stored i (.int k (f z))
  rw [← List.map_set] at h3
  have e1 : (List.map f (List.take i l) ++ List.replicate (n - i) 0).set i (f z) = List.map f (List.take (i + 1) l) ++ List.replicate (n - (i + 1)) 0 := by
    rw [show n - i = (n - (i + 1)) + 1 by omega]
    have hlen : (List.map f (List.take i l)).length = i := by simp; omega
    have := fill_set (List.map f (List.take i l)) 0 (f z) (n - (i + 1))
    rw [hlen] at this
    rw [this, take_snoc' hz, List.map_append]
    rfl
  rw [e1] at h3
  exact h3

def IsOutErr (k : IntKind) (lo : Nat) (l : List Int) (f : Int) (v : Value) (w : World) : Prop := ∃ (A : Option Addr) (n c : Nat), v = .tuple #[.slice A n c, .int .i64 f] ∧ Ints k w lo A n c l

theorem isS_bd {z : Int} (h : isS z = true) : -32768 ≤ z ∧ z ≤ 32767 := by simpa [isS, inB] using h
theorem smp_ok {l : List Int} (h : smpFault l = 0) : l.length ≤ 20000 ∧ ∀ z ∈ l, -32768 ≤ z ∧ z ≤ 32767 := by
  unfold smpFault at h
  split at h
  · omega
  · split at h
    · rename_i h1 h2
      exact ⟨by omega, fun z hz => isS_bd (List.all_eq_true.1 h2 z hz)⟩
    · omega

set_option maxRecDepth 100000 in
set_option maxHeartbeats 4000000 in
theorem small_any (lo : Nat) (A : Option Addr) (n c : Nat) (l : List Int) (w : World) (h : Ints .i64 w lo A n c l) (hn : n ≤ 1000000000000) :
    Calls Try.prog 27 #[.slice A n c] w (RetP (IsOutErr .u8 w.heap.size (if smpFault l = 0 then l.map cmpB else []) (smpFault l)) w) := by
  have H := Lib.hid h; clear h
  by_cases hf : smpFault l = 0
  · have hfb : (smpFault l != 0) = false := by simpa using hf
    obtain ⟨hl2, hz2⟩ := smp_ok hf
    have hln := H.out.len
    have hn2 : n ≤ 20000 := by omega
    have HLN := Lib.hid hln; have HZ2 := Lib.hid hz2
    rw [if_pos hf, hf]
    have HF := Lib.hid hf; clear hf hln hz2 hl2
    have hmk := run_make1 Try.byteT n rfl (by omega) (by omega)
    go_enter Try.func27, Try.ntmps27
    go_wp2_with (first
      | (go_at_call 29; refine (checkSamples_any lo _ _ _ l _ H.out hn).mono ?_; rintro e w' ⟨rfl, rfl⟩)
      | fail)
    go_loopw [6, 7, 18] (fun _ _ t wr => ∃ i : Nat, i ≤ n ∧ t = .int .i64 i ∧ Filled .u8 5 cmpB w w.heap.size w.heap.size n l i wr) (fun _ _ t _ => n - (intOf t).toNat)
    case atStart =>
      refine ⟨0, Nat.zero_le _, rfl, gr_alloc (gr_refl _ _) _, ?_⟩
      have h := Own.made w 5 (.int .u8 0) n (by unfold maxLen; omega)
      simpa using h
    case round =>
      obtain ⟨i, hi, rfl, hrel⟩ := hrel
      have HR := Lib.hid hrel
      obtain ⟨hg, ho⟩ := hrel
      by_cases hlt : i < n
      · obtain ⟨g, o, z, rfl, _, hgl, hz, hc⟩ := (H.out.grown hg (fun g e => by cases e)).get hlt
        have hcz : ∃ u, wr.cell? ⟨w.heap.size, i, none⟩ = some u := by
          rw [ho.cell (by omega)]
          exact ⟨_, List.getElem?_eq_getElem (by simp; have := HLN.out; omega)⟩
        obtain ⟨u, hcu⟩ := hcz
        have hfz : wr.frozen? ⟨w.heap.size, i, none⟩ = false := ho.frozen i
        obtain ⟨zb0, zb1⟩ := HZ2.out z (mem_of_get hz)
        have HZ := Lib.hid hz
        have j0 : (0 : Int) ≤ (i : Int) := by omega
        have j1 : (i : Int) < (n : Int) := by omega
        clear hz hg ho
        go_wp2_with (first
          | (go_at_call 23; refine (compress_ok z _ zb0 zb1).mono ?_; rintro e w' ⟨rfl, rfl⟩)
          | fail)
        go_roundw
        case rel => exact ⟨i + 1, by omega, by go_num, HR.out.next (Nat.le_refl _) HLN.out HZ.out⟩
        case measure => simp [intOf]; omega
      · obtain rfl : i = n := by omega
        clear hg ho
        go_wp2_with fail
        go_ret2
        obtain ⟨hg, ho⟩ := HR.out
        refine ⟨_, rfl, ⟨_, _, _, rfl, ?_⟩, hg⟩
        rw [List.take_of_length_le (by rw [HLN.out]; exact Nat.le_refl _), Nat.sub_self] at ho
        rw [List.replicate_zero, List.append_nil] at ho
        exact ho.reads
  · have hfb : (smpFault l != 0) = true := by simpa using hf
    rw [if_neg hf]
    have HF := Lib.hid hf; clear hf
    go_enter Try.func27, Try.ntmps27
    go_wp2_with (first
      | (go_at_call 29; refine (checkSamples_any lo _ _ _ l _ H.out hn).mono ?_; rintro e w' ⟨rfl, rfl⟩)
      | fail)
    go_ret2
    exact ⟨_, rfl, ⟨none, 0, 0, rfl, Ints.none_⟩, gr_refl _ _⟩

theorem Try.intT : ElemT Try.prog 22 3 1 8 (.int .i64 0) := elemT_of Try.underlying22 (by kernel_rfl) rfl (by decide)

set_option maxRecDepth 100000 in
set_option maxHeartbeats 4000000 in
theorem great_any (lo : Nat) (A : Option Addr) (n c : Nat) (l : List Int) (w : World) (h : Bytes w lo A n c l) (hn : n ≤ 20000) :
    Calls Try.prog 30 #[.slice A n c] w (RetP (IsOutErr .i64 w.heap.size (l.map expB) 0) w) := by
  have H := Lib.hid h; clear h
  have HLN := Lib.hid H.out.1.len
  have hmk := run_make1 Try.intT n rfl (by omega) (by omega)
  have hb' : decide ((20000 : Int) < (n : Int)) = false := by simp; omega
  go_enter Try.func30, Try.ntmps30
  go_wp2_with fail
  go_loopw [5, 6, 15] (fun _ _ t wr => ∃ i : Nat, i ≤ n ∧ t = .int .i64 i ∧ Filled .i64 3 expB w w.heap.size w.heap.size n l i wr) (fun _ _ t _ => n - (intOf t).toNat)
  case atStart =>
    refine ⟨0, Nat.zero_le _, rfl, gr_alloc (gr_refl _ _) _, ?_⟩
    have h := Own.made w 3 (.int .i64 0) n (by unfold maxLen; omega)
    simpa using h
  case round =>
    obtain ⟨i, hi, rfl, hrel⟩ := hrel
    have HR := Lib.hid hrel
    obtain ⟨hg, ho⟩ := hrel
    by_cases hlt : i < n
    · obtain ⟨g, o, z, rfl, _, hgl, hz, hc⟩ := (H.out.1.grown hg (fun g e => by cases e)).get hlt
      have hcz : ∃ u, wr.cell? ⟨w.heap.size, i, none⟩ = some u := by
        rw [ho.cell (by omega)]
        exact ⟨_, List.getElem?_eq_getElem (by simp; have := HLN.out; omega)⟩
      obtain ⟨u, hcu⟩ := hcz
      have hfz : wr.frozen? ⟨w.heap.size, i, none⟩ = false := ho.frozen i
      obtain ⟨zb0, zb1⟩ := H.out.2 z (mem_of_get hz)
      have HZ := Lib.hid hz
      have j0 : (0 : Int) ≤ (i : Int) := by omega
      have j1 : (i : Int) < (n : Int) := by omega
      clear hz hg ho
      go_wp2_with (first
        | (go_at_call 32; refine (expand_any z _ zb0 zb1).mono ?_; rintro e w' ⟨rfl, rfl⟩)
        | fail)
      go_roundw
      case rel => exact ⟨i + 1, by omega, by go_num, HR.out.next (Nat.le_refl _) HLN.out HZ.out⟩
      case measure => simp [intOf]; omega
    · obtain rfl : i = n := by omega
      clear hg ho
      go_wp2_with fail
      go_ret2
      obtain ⟨hg, ho⟩ := HR.out
      refine ⟨_, rfl, ⟨_, _, _, rfl, ?_⟩, hg⟩
      rw [List.take_of_length_le (by rw [HLN.out]; exact Nat.le_refl _), Nat.sub_self] at ho
      rw [List.replicate_zero, List.append_nil] at ho
      exact ho.reads
end Go.Proofs.Ytdknfhpconfhkaa

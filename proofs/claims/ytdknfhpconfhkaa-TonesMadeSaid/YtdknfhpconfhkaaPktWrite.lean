/- Contracts of the writing of packets, the program's and the document's. Conditions: none. -/
import Derived.Test.YtdknfhpconfhkaaPktCheck
import Derived.Test.YtdknfhpconfhkaaPackets
namespace Go.Proofs.Ytdknfhpconfhkaa
open Go.RowKit

/-- The last k bytes of a number, the highest first. -/
def beBytes (x : Int) : Nat → List Int
  | 0 => []
  | k + 1 => (x / 2 ^ (8 * k)) % 256 :: beBytes x k
theorem beBytes_len (x : Int) : ∀ k, (beBytes x k).length = k
  | 0 => rfl
  | k + 1 => by simp [beBytes, beBytes_len x k]
theorem beBytes_at (x : Int) : ∀ (m k : Nat) (_ : k < m), (beBytes x m)[k]? = some ((x / 2 ^ (8 * (m - 1 - k))) % 256)
  | m + 1, 0, _ => by simp [beBytes]
  | m + 1, k + 1, h => by
    simp only [beBytes, List.getElem?_cons_succ]
    rw [beBytes_at x m k (by omega)]
    rw [show m + 1 - 1 - (k + 1) = m - 1 - k by omega]
theorem beBytes_snoc (x : Int) (m k : Nat) (h : k < m) : (beBytes x m).take (k + 1) = (beBytes x m).take k ++ [(x / 2 ^ (8 * (m - 1 - k))) % 256] := by
  have hl : k < (beBytes x m).length := by rw [beBytes_len]; exact h
  rw [List.take_succ_eq_append_getElem hl]
  have := beBytes_at x m k h
  rw [List.getElem?_eq_getElem hl] at this
  injection this with this
  rw [this]
theorem beBytes_byte (x : Int) : ∀ (k : Nat), ∀ b ∈ beBytes x k, 0 ≤ b ∧ b < 256
  | 0, b, h => by cases h
  | k + 1, b, h => by
    rcases List.mem_cons.1 h with rfl | h
    · omega
    · exact beBytes_byte x k b h


set_option maxRecDepth 100000 in
set_option maxHeartbeats 2000000 in
theorem put_any (lo : Nat) (A : Option Addr) (n c : Nat) (l : List Int) (x : Int) (many : Nat) (w : World) (ho : OwnB w lo A n c l) (hlo : lo ≤ w.heap.size) (hn : n ≤ 1000000) (_ : 0 ≤ x) (_ : x ≤ 4294967295) (hm : many ≤ 4) :
    Calls Try.prog 62 #[.slice A n c, .int .i64 x, .int .i64 many] w fun e w' => ∃ A' c', e = .returned (.slice A' (n + many) c') ∧ Appended w lo 5 1 A A' (n + many) c' ((l ++ beBytes x many).map (Value.int .u8)) w' := by
  have HO := Lib.hid ho; clear ho
  go_enter Try.func62, Try.ntmps62
  go_wp2_with fail
  go_loopw [0, 7] (fun v i wr => ∃ (k : Nat) (A' : Option Addr) (c' : Nat), k ≤ many ∧ i = .int .i64 ((many : Int) - 1 - k) ∧ v = .slice A' (n + k) c' ∧ Appended w lo 5 1 A A' (n + k) c' ((l ++ (beBytes x many).take k).map (Value.int .u8)) wr) (fun _ i _ => (intOf i + 1).toNat)
  case atStart => exact ⟨0, A, c, Nat.zero_le _, by simp, rfl, Appended.refl (by simpa [OwnB] using HO.out)⟩
  case round =>
    obtain ⟨k, A', c', hk, rfl, rfl, happ⟩ := hrel
    have HA := Lib.hid happ; have HO' := Lib.hid happ.1; clear happ
    have zr := HA.out.2.1.size
    by_cases hlt : k < many
    · go_wp2_with
        (at_builtin
         refine wpl_app _ rfl _ _ Try.byteT rfl lo A' (n + k) c' _ rfl (by exact HO'.out.alloc _) _ _ 1 1 [.int .u8 (x / 2 ^ (8 * (many - 1 - k)) % 256)] rfl (by exact Reads.one _ _ _ _ rfl) (by simp [Value.oneCell']) (by unfold maxLen; omega) (by omega) (by simp; omega) ?_
         intro A1 c1 w1 h1
         have H1 := Lib.hid h1; clear h1)
      go_roundw
      case rel =>
        have h := HA.out.then (gr_alloc (gr_refl _ _) _) H1.out
        refine ⟨k + 1, A1, c1, by omega, by go_num, rfl, ?_⟩
        rw [beBytes_snoc x many k hlt, ← List.append_assoc, List.map_append (l₂ := [_])]
        exact h
      case measure => simp [intOf]; omega
    · obtain rfl : k = many := by omega
      go_wp2_with fail
      go_ret
      refine ⟨A', c', rfl, ?_⟩
      have h := HA.out
      rw [List.take_of_length_le (by rw [beBytes_len]; exact Nat.le_refl _)] at h
      exact h

/-- The bytes of a right packet. -/
def pktBytes (ty sq tm sr : Int) (mk : Bool) (l : List Int) : List Int := [128, (if mk then ty + 128 else ty) % 256] ++ beBytes sq 2 ++ beBytes tm 4 ++ beBytes sr 4 ++ l

theorem inB_iff {n lo hi : Int} : inB n lo hi = true ↔ lo ≤ n ∧ n ≤ hi := by simp [inB]
theorem pktFault_ok {ty sq tm sr : Int} {n : Nat} (h : pktFault ty sq tm sr n = 0) : (0 ≤ ty ∧ ty ≤ 127) ∧ (0 ≤ sq ∧ sq ≤ 65535) ∧ (0 ≤ tm ∧ tm ≤ 4294967295) ∧ (0 ≤ sr ∧ sr ≤ 4294967295) ∧ n ≤ 1000 := by
  unfold pktFault at h
  split at h
  · rename_i hc
    simp only [Bool.and_eq_true, inB_iff] at hc
    split at h
    · omega
    · exact ⟨hc.1.1.1, hc.1.1.2, hc.1.2, hc.2, by omega⟩
  · omega

/-- Bytes and what is wrong. -/
def IsBytesErr (lo : Nat) (l : List Int) (f : Int) (v : Value) (w : World) : Prop := ∃ (A : Option Addr) (n c : Nat), v = .tuple #[.slice A n c, .int .i64 f] ∧ Bytes w lo A n c l

set_option maxRecDepth 100000 in
set_option maxHeartbeats 4000000 in
theorem write_any (ty sq tm sr : Int) (mk : Bool) (lo : Nat) (A : Option Addr) (n c : Nat) (l : List Int) (w : World) (hb : Bytes w lo A n c l) :
    Calls Try.prog 11 #[.agg #[.int .i64 ty, .int .i64 sq, .int .i64 tm, .int .i64 sr, .bool mk, .slice A n c]] w
      (RetP (IsBytesErr w.heap.size (if pktFault ty sq tm sr n = 0 then pktBytes ty sq tm sr mk l else []) (pktFault ty sq tm sr n)) w) := by
  have HB := Lib.hid hb; clear hb
  by_cases hf : pktFault ty sq tm sr n = 0
  · cases mk
    all_goals
      have hfb : (pktFault ty sq tm sr n != 0) = false := by simpa using hf
      obtain ⟨⟨t0, t1⟩, ⟨s0, s1⟩, ⟨m0, m1⟩, ⟨r0, r1⟩, hn⟩ := pktFault_ok hf
      rw [if_pos hf, hf]
      have HF := Lib.hid hf; clear hf
      go_enter Try.func11, Try.ntmps11
      go_wp2_with (first
        | (refine wpl_load_all Try.pktT rfl _ rfl _ rfl _ _ (Blk.new _ _ _) rfl ?_)
        | (go_at_call 16; refine (checkPacket_any _ _ _ _ _ _ _ _ _).mono ?_; rintro e w1 ⟨rfl, hg1⟩
           have HK := Lib.hid ((Blk.new w _ _).grown hg1 (by simp))
           have cK := HK.out.cell
           have z1 := hg1.size; simp at z1
           have HG1 := Lib.hid (gr_none (gr_alloc (gr_refl w none) _) hg1); clear hg1))
      go_region_held3 (fun w' => w'.cell? ⟨w.heap.size, 1, none⟩ = some (.int .i64 sq) ∧ w'.cell? ⟨w.heap.size, 2, none⟩ = some (.int .i64 tm) ∧ w'.cell? ⟨w.heap.size, 3, none⟩ = some (.int .i64 sr))
        (first | exact ⟨HK4.out.cell 1, HK4.out.cell 2, HK4.out.cell 3⟩ | exact ⟨HK3.out.cell 1, HK3.out.cell 2, HK3.out.cell 3⟩ | exact ⟨HK2.out.cell 1, HK2.out.cell 2, HK2.out.cell 3⟩ | exact ⟨(HK.out.drew.alloc _).cell 1, (HK.out.drew.alloc _).cell 2, (HK.out.drew.alloc _).cell 3⟩ | exact ⟨HK.out.drew.cell 1, HK.out.drew.cell 2, HK.out.drew.cell 3⟩)
        (first
          | (go_at_call 62
             have _tok := HK3
             refine (put_any w1.heap.size _ _ _ _ sr 4 _ (by exact H3.out.1) (by omega) (by omega) (by omega) (by omega) (by omega)).mono ?_
             rintro e w4 ⟨A4, c4, rfl, h4⟩
             have HK4 := Lib.hid (HK3.out.grown h4.2.1 (fun e => by have := (H3.out.1.lt e.symm).1; omega))
             have HG4 := Lib.hid (h4.gr HG3.out H3.out.1 (by omega))
             have z4 := h4.2.1.size
             have H4 := Lib.hid h4; clear h4)
          | (go_at_call 62
             have _tok := HK2
             refine (put_any w1.heap.size _ _ _ _ tm 4 _ (by exact H2.out.1) (by omega) (by omega) (by omega) (by omega) (by omega)).mono ?_
             rintro e w3 ⟨A3, c3, rfl, h3⟩
             have HK3 := Lib.hid (HK2.out.grown h3.2.1 (fun e => by have := (H2.out.1.lt e.symm).1; omega))
             have HG3 := Lib.hid (h3.gr HG2.out H2.out.1 (by omega))
             have z3 := h3.2.1.size
             have H3 := Lib.hid h3; clear h3)
          | (go_at_call 62
             refine (put_any w1.heap.size _ 2 2 [128, _] sq 2 _ (by exact Own.lit w1.drew _ 1 _ 2 (by unfold maxLen; omega) rfl) (by simp) (by omega) (by omega) (by omega) (by omega)).mono ?_
             rintro e w2 ⟨A2, c2, rfl, h2⟩
             have HK2 := Lib.hid ((HK.out.drew.alloc _).grown h2.2.1 (by simp [blkOf]; omega))
             have HG2 := Lib.hid (h2.gr (gr_alloc (gr_drew HG1.out) _) (Own.lit w1.drew _ 1 _ 2 (by unfold maxLen; omega) rfl) (by omega))
             have z2 := h2.2.1.size; simp at z2
             have H2 := Lib.hid h2; clear h2))
      have hrd := (HB.out.1.grown HG4.out (fun g e => by cases e))
      have cK4 := HK4.out.cell
      have HRD := Lib.hid hrd; clear hrd
      have hl := HB.out.1.len
      go_wp2_with
        (at_builtin
         refine wpl_app _ rfl _ _ Try.byteT rfl w1.heap.size A4 _ c4 _ rfl (by exact H4.out.1) _ A n c _ rfl (by exact HRD.out) (by simp [Value.oneCell']) (by unfold maxLen; omega) (by omega) (by omega) ?_
         intro A5 c5 w5 h5
         have H5 := Lib.hid h5; clear h5)
      go_ret2
      refine ⟨_, rfl, ⟨A5, _, c5, rfl, ?_, ?_⟩, H5.out.gr HG4.out H4.out.1 (by omega)⟩
      · have h := (H5.out.1.lower (show w.heap.size ≤ w1.heap.size by omega)).reads
        rw [← List.map_append] at h
        rw [IntKind.wrap_u8] at h
        exact h
      · intro b hb
        simp only [pktBytes, List.mem_append, List.mem_cons, List.not_mem_nil, or_false] at hb
        rcases hb with ((((h | h) | h) | h) | h) | h
        · omega
        · omega
        · exact beBytes_byte _ _ _ h
        · exact beBytes_byte _ _ _ h
        · exact beBytes_byte _ _ _ h
        · exact HB.out.2 b h
  · have hfb : (pktFault ty sq tm sr n != 0) = true := by simpa using hf
    rw [if_neg hf]
    go_enter Try.func11, Try.ntmps11
    go_wp2_with (first
      | (refine wpl_load_all Try.pktT rfl _ rfl _ rfl _ _ (Blk.new _ _ _) rfl ?_)
      | (go_at_call 16; refine (checkPacket_any _ _ _ _ _ _ _ _ _).mono ?_; rintro e w1 ⟨rfl, hg1⟩; have HG1 := Lib.hid hg1; clear hg1))
    go_ret2
    exact ⟨_, rfl, ⟨none, 0, 0, rfl, Ints.none_, by simp⟩, gr_none (gr_alloc (gr_refl _ _) _) HG1.out⟩
end Go.Proofs.Ytdknfhpconfhkaa

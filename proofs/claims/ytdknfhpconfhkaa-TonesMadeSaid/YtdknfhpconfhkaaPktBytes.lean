/- Contract of the document's bytes of a packet. Conditions: none. -/
import Derived.Test.YtdknfhpconfhkaaPktWrite
namespace Go.Proofs.Ytdknfhpconfhkaa
open Go.RowKit

/-- The numbers of a packet that are written, and with how many bytes. -/
def pieces (sq tm sr : Int) : List (Int × Nat) := [(sq, 2), (tm, 4), (sr, 4)]
/-- What the first i of them come to. -/
def piecesTo (sq tm sr : Int) (i : Nat) : List Int := ((pieces sq tm sr).take i).flatMap fun p => beBytes p.1 p.2

theorem piece_at (sq tm sr : Int) (hs : 0 ≤ sq ∧ sq ≤ 4294967295) (ht : 0 ≤ tm ∧ tm ≤ 4294967295) (hr : 0 ≤ sr ∧ sr ≤ 4294967295) (i : Nat) (hi : i < 3) :
    ∃ (y : Int) (m : Nat), #[Value.int .i64 sq, .int .i64 2, .int .i64 tm, .int .i64 4, .int .i64 sr, .int .i64 4][i * 2]? = some (.int .i64 y) ∧ #[Value.int .i64 sq, .int .i64 2, .int .i64 tm, .int .i64 4, .int .i64 sr, .int .i64 4][i * 2 + 1]? = some (.int .i64 (m : Int)) ∧
      0 ≤ y ∧ y ≤ 4294967295 ∧ 1 ≤ m ∧ m ≤ 4 ∧ piecesTo sq tm sr (i + 1) = piecesTo sq tm sr i ++ beBytes y m ∧ (piecesTo sq tm sr i).length ≤ 10 := by
  rcases (by omega : i = 0 ∨ i = 1 ∨ i = 2) with rfl | rfl | rfl
  · exact ⟨sq, 2, rfl, rfl, hs.1, hs.2, by omega, by omega, by simp [piecesTo, pieces], by simp [piecesTo]⟩
  · exact ⟨tm, 4, rfl, rfl, ht.1, ht.2, by omega, by omega, by simp [piecesTo, pieces], by simp [piecesTo, pieces, beBytes_len]⟩
  · exact ⟨sr, 4, rfl, rfl, hr.1, hr.2, by omega, by omega, by simp [piecesTo, pieces], by simp [piecesTo, pieces, beBytes_len]⟩

theorem pktBytes_eq {ty sq tm sr b2 : Int} {mk : Bool} {l : List Int} (h : (if mk then ty + 128 else ty) = b2) (h0 : 0 ≤ ty ∧ ty ≤ 127) : pktBytes ty sq tm sr mk l = [128, b2] ++ piecesTo sq tm sr 3 ++ l := by
  have hb : b2 % 256 = b2 := by cases mk <;> simp at h <;> omega
  simp only [pktBytes, h, hb, piecesTo, pieces]
  simp [List.append_assoc]

theorem Try.pieceT : StructT Try.prog 93 2 := ⟨_, Try.underlying93, rfl, by kernel_rfl⟩

def PBRel (w : World) (pk : Array Value) (sq tm sr : Int) (L : List Int) (A' : Option Addr) (n' c' : Nat) (wr : World) : Prop :=
  w.grownBy wr none ∧ Blk wr w.heap.size 28 pk ∧ Blk wr (w.heap.size + 2) 93 #[.int .i64 sq, .int .i64 2, .int .i64 tm, .int .i64 4, .int .i64 sr, .int .i64 4] ∧ OwnB wr w.heap.size A' n' c' L

theorem PBRel.app {w wr w1 : World} {pk : Array Value} {sq tm sr : Int} {L : List Int} {A' A1 : Option Addr} {n' c' n1 c1 : Nat} {o : Obj} {x : Int} (h : PBRel w pk sq tm sr L A' n' c' wr)
    (h1 : Appended (wr.alloc o) w.heap.size 5 1 A' A1 n1 c1 (L.map (Value.int .u8) ++ [.int .u8 x]) w1) : PBRel w pk sq tm sr (L ++ [x]) A1 n1 c1 w1 := by
  obtain ⟨hg, hp, hq, ho⟩ := h
  have ho' : Own (wr.alloc o) w.heap.size 5 1 A' n' c' _ := Own.alloc ho o
  have hp' := hp.alloc o
  have hq' := hq.alloc o
  refine ⟨h1.gr (gr_alloc hg o) ho' (Nat.le_refl _), hp'.grown h1.2.1 (Ne.symm (ho'.blk_ne hp' (by decide))), hq'.grown h1.2.1 (Ne.symm (ho'.blk_ne hq' (by decide))), ?_⟩
  unfold OwnB
  rw [List.map_append]
  exact h1.1
theorem PBRel.gr {w wr w1 : World} {pk : Array Value} {sq tm sr : Int} {L : List Int} {A' : Option Addr} {n' c' : Nat} (h : PBRel w pk sq tm sr L A' n' c' wr) (hg : wr.grownBy w1 none) : PBRel w pk sq tm sr L A' n' c' w1 := by
  obtain ⟨hg0, hp, hq, ho⟩ := h
  exact ⟨gr_none hg0 hg, hp.grown hg (by simp), hq.grown hg (by simp), Own.kept ho hg (fun _ e => by cases e)⟩

set_option maxRecDepth 100000 in
set_option maxHeartbeats 4000000 in
theorem packetBytes_any (ty sq tm sr : Int) (mk : Bool) (lo : Nat) (A : Option Addr) (n c : Nat) (l : List Int) (w : World) (hb : Bytes w lo A n c l) (hty : 0 ≤ ty ∧ ty ≤ 127) (hs : 0 ≤ sq ∧ sq ≤ 4294967295) (ht : 0 ≤ tm ∧ tm ≤ 4294967295) (hr : 0 ≤ sr ∧ sr ≤ 4294967295) (hn : n ≤ 2000) :
    Calls Try.prog 13 #[.agg #[.int .i64 ty, .int .i64 sq, .int .i64 tm, .int .i64 sr, .bool mk, .slice A n c]] w
      (RetP (fun v w' => ∃ A' c', v = .slice A' (12 + n) c' ∧ OwnB w' w.heap.size A' (12 + n) c' (pktBytes ty sq tm sr mk l)) w) := by
  have HB := Lib.hid hb; clear hb
  obtain ⟨ty0, ty1⟩ := hty
  have hb2 : ∃ b2, (if mk then ty + 128 else ty) = b2 := ⟨_, rfl⟩
  obtain ⟨b2, hb2⟩ := hb2
  have HB2 := Lib.hid hb2; clear hb2
  have hP := piece_at sq tm sr hs ht hr
  have HP := Lib.hid hP; clear hP hs ht hr
  have hst : ∀ pk, PBRel w pk sq tm sr ([128, b2] ++ piecesTo sq tm sr 0) (some ⟨w.heap.size + 1, 0, none⟩) 2 2 (((w.alloc (.cells pk 28)).alloc (.cells #[.int .u8 128, .int .u8 b2] 5)).alloc (.cells #[.int .i64 sq, .int .i64 2, .int .i64 tm, .int .i64 4, .int .i64 sr, .int .i64 4] 93)) := fun pk => by
    refine ⟨gr_alloc (gr_alloc (gr_alloc (gr_refl _ _) _) _) _, ((Blk.new w _ _).alloc _).alloc _, ?_, ?_⟩
    · have h := Blk.new ((w.alloc (.cells pk 28)).alloc (.cells #[.int .u8 128, .int .u8 b2] 5)) 93 #[.int .i64 sq, .int .i64 2, .int .i64 tm, .int .i64 4, .int .i64 sr, .int .i64 4]
      simpa using h
    · have h := ((Own.lit (w.alloc (.cells pk 28)) 5 1 [.int .u8 128, .int .u8 b2] 2 (by unfold maxLen; omega) rfl).alloc (.cells #[.int .i64 sq, .int .i64 2, .int .i64 tm, .int .i64 4, .int .i64 sr, .int .i64 4] 93)).lower (show w.heap.size ≤ (w.alloc (.cells pk 28)).heap.size by simp)
      simpa [OwnB, piecesTo] using h
  have HST := Lib.hid hst; clear hst
  cases mk
  all_goals
    have hb2' := HB2.out
    simp only [if_true, if_false, Bool.false_eq_true] at hb2'
    subst hb2'
    go_enter Try.func13, Try.ntmps13
    go_wp2_with fail
    go_loopw [3, 29] (fun v t wr => ∃ (i : Nat) (A' : Option Addr) (n' c' : Nat), i ≤ 3 ∧ t = .int .i64 i ∧ v = .slice A' n' c' ∧ n' = 2 + (piecesTo sq tm sr i).length ∧ PBRel w #[.int .i64 ty, .int .i64 sq, .int .i64 tm, .int .i64 sr, .bool _, .slice A n c] sq tm sr ([128, _] ++ piecesTo sq tm sr i) A' n' c' wr) (fun _ t _ => 3 - (intOf t).toNat)
    case atStart => exact ⟨0, _, 2, 2, by omega, rfl, rfl, by simp [piecesTo], HST.out _⟩
    case round =>
      obtain ⟨i, A', n', c', hi, rfl, rfl, hn', hrel⟩ := hrel
      have HR := Lib.hid hrel
      by_cases hlt : i < 3
      · obtain ⟨y, m, hy, hm, y0, y1, m0, m1, hpt, hpl⟩ := HP.out i hlt
        have cQ : ∀ j, wr.cell? ⟨w.heap.size + 2, j, none⟩ = _ := hrel.2.2.1.cell
        have cy : wr.cell? ⟨w.heap.size + 2, i * 2, none⟩ = some (.int .i64 y) := (cQ _).trans hy
        have cm : wr.cell? ⟨w.heap.size + 2, i * 2 + 1, none⟩ = some (.int .i64 m) := (cQ _).trans hm
        have zw := hrel.2.2.1.lt
        have hd : decide ((i : Int) < 3) = true := by simp; omega
        have HPT := Lib.hid hpt; have HN := Lib.hid hn'
        clear hrel cQ hy hm hpt hn'
        go_wp2_with fail
        obtain ⟨wo, rfl⟩ : ∃ wo : World, wo = wr := ⟨_, rfl⟩
        go_loopw [3, 6] (fun v t wi => ∃ (k : Nat) (A1 : Option Addr) (n1 c1 : Nat), k ≤ m ∧ t = .int .i64 ((m : Int) - 1 - k) ∧ v = .slice A1 n1 c1 ∧ n1 = n' + k ∧ PBRel w #[.int .i64 ty, .int .i64 sq, .int .i64 tm, .int .i64 sr, .bool _, .slice A n c] sq tm sr ([128, _] ++ piecesTo sq tm sr i ++ (beBytes y m).take k) A1 n1 c1 wi ∧ Blk wi wo.heap.size 93 #[.int .i64 y, .int .i64 m]) (fun _ t _ => (intOf t + 1).toNat)
        case atStart => exact ⟨0, A', n', c', Nat.zero_le _, by simp, rfl, by simp, by simpa using HR.out.gr (gr_alloc (gr_refl _ _) _), Blk.new _ _ _⟩
        case round =>
          obtain ⟨k, A1, n1, c1, hk, rfl, rfl, hn1, hrel, hv⟩ := hrel
          have HR1 := Lib.hid hrel; have HN1 := Lib.hid hn1; have HV := Lib.hid hv
          have zi := hrel.1.size
          have hb1 : n1 ≤ 20 := by have := HN.out; omega
          have cv := hv.cell
          clear hrel hn1 hv
          by_cases hkm : k < m
          · go_wp2_with
              (at_builtin
               refine wpl_app _ rfl _ _ Try.byteT rfl w.heap.size A1 n1 c1 _ rfl (by exact HR1.out.2.2.2.alloc _) _ _ 1 1 [.int .u8 (y / 2 ^ (8 * (m - 1 - k)) % 256)] rfl (by exact Reads.one _ _ _ _ rfl) (by simp [Value.oneCell']) (by unfold maxLen; omega) (by omega) (by simp; omega) ?_
               intro A2 c2 w2 h2
               have H2 := Lib.hid h2; clear h2)
            go_roundw
            case rel =>
              refine ⟨k + 1, A2, _, c2, by omega, by go_num, rfl, ?_, ?_, ?_⟩
              · have := HN1.out; omega
              · rw [beBytes_snoc y m k hkm, ← List.append_assoc (bs := List.take k _)]
                exact HR1.out.app H2.out
              · have hv := HV.out.alloc (.cells #[.int .u8 (y / 2 ^ (8 * (m - 1 - k)) % 256)] 5)
                exact hv.grown H2.out.2.1 (Ne.symm ((Own.alloc HR1.out.2.2.2 _).blk_ne hv (by decide)))
            case measure => simp [intOf]; omega
          · obtain rfl : k = m := by omega
            go_wp2_with fail
            go_roundw
            case rel =>
              refine ⟨i + 1, A1, n1, c1, by omega, by go_num, rfl, ?_, ?_⟩
              · have h1 := HN1.out; have h2 := HN.out; rw [HPT.out, List.length_append, beBytes_len]; omega
              · have h := HR1.out
                rw [List.take_of_length_le (by rw [beBytes_len]; exact Nat.le_refl _)] at h
                rw [HPT.out, ← List.append_assoc]
                exact h
            case measure => simp [intOf]; omega
      · obtain rfl : i = 3 := by omega
        have cP := hrel.2.1.cell
        have hn3 : n' = 12 := by simpa [piecesTo, pieces, beBytes_len] using hn'
        subst hn3
        have hrd := HB.out.1.grown hrel.1 (fun g e => by cases e)
        have HRD := Lib.hid hrd
        have zw := hrel.1.size
        have hl := HB.out.1.len
        clear hrel hn' hrd
        go_wp2_with
          (at_builtin
           refine wpl_app _ rfl _ _ Try.byteT rfl w.heap.size A' _ c' _ rfl (by exact HR.out.2.2.2) _ A n c _ rfl (by exact HRD.out) (by simp [Value.oneCell']) (by unfold maxLen; omega) (by omega) (by omega) ?_
           intro A5 c5 w5 h5
           have H5 := Lib.hid h5; clear h5)
        go_ret
        refine ⟨_, rfl, ⟨A5, c5, rfl, ?_⟩, H5.out.gr HR.out.1 HR.out.2.2.2 (Nat.le_refl _)⟩
        have h := H5.out.1
        rw [← List.map_append] at h
        unfold OwnB
        rw [pktBytes_eq (by first | exact if_pos rfl | exact if_neg (by decide)) ⟨ty0, ty1⟩]
        exact h
end Go.Proofs.Ytdknfhpconfhkaa

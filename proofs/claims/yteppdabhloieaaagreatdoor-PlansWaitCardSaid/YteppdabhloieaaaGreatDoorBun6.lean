/- Contracts of PatternFault, setAt and MatchesOf. Conditions: none. -/
import Derived.Test.YteppdabhloieaaaGreatDoorRefPat4
import Derived.Test.YteppdabhloieaaaGreatDoorBun5
import Derived.Lib.SlBytesConst
namespace Go.Proofs.YteppdabhloieaaaGreatDoor
section
open Go.RowKit
def Strs (w : World) (lo : Nat) (A : Option Addr) (n c : Nat) (S : List Nat) : Prop := Reads w lo 1 A n c (S.map sv)
theorem Strs.len {w : World} {lo : Nat} {A : Option Addr} {n c : Nat} {S : List Nat} (h : Strs w lo A n c S) : S.length = n := by have := h.1; simpa using this
theorem Strs.grown {w w' : World} {lo : Nat} {A : Option Addr} {n c : Nat} {S : List Nat} (h : Strs w lo A n c S) {row : Option Nat} (hg : w.grownBy w' row) (hr : ∀ g, row = some g → g < lo) : Strs w' lo A n c S := Reads.grown h hg hr
theorem Strs.get {w : World} {lo : Nat} {A : Option Addr} {n c i : Nat} {S : List Nat} (h : Strs w lo A n c S) (hi : i < n) : ∃ g o, A = some ⟨g, o, none⟩ ∧ lo ≤ g ∧ g < w.heap.size ∧ w.cell? ⟨g, o + i, none⟩ = some (.string (strN (setStr (S.getD i 0)))) := by
 obtain ⟨g, o, u, e, h1, h2, h3, h4⟩ := Reads.at_ h hi
 have hl : i < S.length := by rw [h.len]; exact hi
 refine ⟨g, o, e, h1, h2, ?_⟩
 rw [List.getElem?_map, List.getElem?_eq_getElem hl] at h3
 rw [h4, ← h3, List.getD_eq_getElem?_getD, List.getElem?_eq_getElem hl]
 rfl
theorem shape_ok (s : ByteArray) (x : List Nat × Nat) (w : World) (h : patX (nb s) = some x) : Calls Tryz.prog 67 #[.string s] w
   (RetP (fun v w' => ∃ (A : Option Addr) (n c : Nat), v = .tuple #[.agg #[.slice A n c, .int .u8 x.2], .bool true] ∧ Strs w' w.heap.size A n c x.1 ∧ n ≤ 30) w) := by
 have hs : s.size ≤ 60 := by
   unfold patX at h
   split at h
   · rw [nb_len] at *; assumption
   · cases h
 have hx : shpL (nb s) = some x := by unfold patX at h; rwa [if_pos (by rw [nb_len]; exact hs)] at h
 refine (shapeOf_any s w hs).mono ?_
 rintro e w' ⟨v, rfl, hv, hg⟩
 refine ⟨v, rfl, ?_, hg⟩
 rcases hv with ⟨x', A, n, c, h1, rfl, h3, h4⟩ | ⟨h1, _⟩
 · rw [hx] at h1
   injection h1 with h1
   subst h1
   exact ⟨A, n, c, rfl, Own.reads h3, by have := Own.len h3; simp at this; omega⟩
 · rw [hx] at h1; cases h1
set_option maxHeartbeats 2000000 in
theorem patternFault_any (s : ByteArray) (w : World) : Calls Tryz.prog 118 #[.string s] w (RetV (.int .i64 (patF (nb s))) w) := by
 by_cases hs : s.size ≤ 60
 · have d0 : decide ((60 : Int) < (s.size : Int)) = false := decide_eq_false (by omega)
   have HF := Lib.hid (show patF (nb s) = if shpL (nb s) = none then 9 else 0 by unfold patF; rw [if_neg (by rw [nb_len]; omega)])
   go_enter Tryz.func118, Tryz.ntmps118
   go_wp2_with fail
   refine (shapeOf_any s _ hs).mono ?_
   rintro e w1 ⟨v1, rfl, hv1, hg1⟩
   have HG := Lib.hid hg1; clear hg1
   rcases hv1 with ⟨x, A, n, c, h1, rfl, h3, h4⟩ | ⟨h1, A, n, c, t, rfl⟩
   · have HV := Lib.hid (show patF (nb s) = 0 by rw [HF.out, h1]; rfl)
     clear h1 h3
     go_wp2_with fail
     go_ret
     exact ⟨by rw [HV.out]; rfl, gr_alloc HG.out _⟩
   · have HV := Lib.hid (show patF (nb s) = 9 by rw [HF.out, h1]; rfl)
     clear h1
     go_wp2_with fail
     go_ret
     exact ⟨by rw [HV.out]; rfl, gr_alloc HG.out _⟩
 · have d0 : decide ((60 : Int) < (s.size : Int)) = true := decide_eq_true (by omega)
   have HV := Lib.hid (show patF (nb s) = 2 by unfold patF; rw [if_pos (by rw [nb_len]; omega)])
   go_enter Tryz.func118, Tryz.ntmps118
   go_wp2_with fail
   go_ret
   exact ⟨by rw [HV.out]; rfl, gr_refl _ _⟩
set_option maxHeartbeats 2000000 in
theorem setAt_any (A : Option Addr) (n c i : Nat) (x : List Nat × Nat) (w : World) (h : Strs w 0 A n c x.1) (hi : i ≤ 1000) (hn : n ≤ 30) :
   Calls Tryz.prog 70 #[.agg #[.slice A n c, .int .u8 x.2], .int .i64 i] w (RetV (.string (strN (setAtL x i))) w) := by
 have hl := h.len
 by_cases hlt : i < n
 · obtain ⟨g, o, rfl, _, hgl, hc⟩ := h.get hlt
   have HV := Lib.hid (show setAtL x i = setStr (x.1.getD i 0) by unfold setAtL; rw [if_pos (by omega)])
   have HV2 := Lib.hid (show strN (setAtL x i) = strN (setStr (x.1.getD i 0)) by rw [HV.out])
   generalize strN (setStr (x.1.getD i 0)) = sq at hc HV2
   clear h hl HV
   go_enter Tryz.func70, Tryz.ntmps70
   go_wp2_with fail
   go_ret
   exact ⟨by rw [HV2.out]; rfl, gr_alloc (gr_refl _ _) _⟩
 · have HV := Lib.hid (show strN (setAtL x i) = ⟨#[35, 42, 48, 49, 50, 51, 52, 53, 54, 55, 56, 57]⟩ by unfold setAtL; rw [if_neg (by omega), ← nb_signs, strN_nb])
   have q1 : decide (i < n) = false := decide_eq_false hlt
   have q2 : decide ((i : Int) < (n : Int)) = false := decide_eq_false (by omega)
   clear h hl
   go_enter Tryz.func70, Tryz.ntmps70
   go_wp2_with fail
   go_ret
   exact ⟨by rw [HV.out]; rfl, gr_alloc (gr_refl _ _) _⟩
end
end Go.Proofs.YteppdabhloieaaaGreatDoor
namespace Go.Proofs.YteppdabhloieaaaGreatDoor
section
open Go.RowKit
theorem idx_mem {l : List Nat} {c : Nat} : (0 ≤ idxL l c ↔ c ∈ l) ∧ (idxL l c < 0 ↔ ¬ c ∈ l) := by
 unfold idxL
 by_cases h : c ∈ l
 · rw [if_pos h]; constructor <;> constructor <;> intro h1 <;> first | exact h | omega | exact absurd h h1 | fail
 · rw [if_neg h]; constructor <;> constructor <;> intro h1 <;> first | exact h | omega | exact absurd h1 h | fail
theorem ins_false {S d : List Nat} {n i : Nat} (h : ¬ d.getD i 0 ∈ setStr (S.getD i 0)) (hi : i < n) : insL S d n = false := by
 induction n with
 | zero => omega
 | succ n ih =>
   unfold insL
   rcases Nat.lt_succ_iff_lt_or_eq.1 hi with h1 | h1
   · rw [ih h1]; rfl
   · subst h1; rw [decide_eq_false h]; simp
set_option maxRecDepth 100000 in
set_option maxHeartbeats 4000000 in
theorem matchesOf_any (p d : ByteArray) (x : List Nat × Nat) (w : World) (h : patX (nb p) = some x) (hd : d.size ≤ 1000) :
   Calls Tryz.prog 122 #[.string p, .string d] w (RetV (.bool (matchL x (nb d))) w) := by
 obtain ⟨S, t⟩ := x
 have HX := Lib.hid h
 have HR := Lib.hid (patX_right h).1
 clear h
 go_enter Tryz.func122, Tryz.ntmps122
 go_wp2_with fail
 refine (shape_ok p _ _ HX.out).mono ?_
 rintro e w1 ⟨v1, rfl, ⟨A, n, c, rfl, hst, hn⟩, hg1⟩
 dsimp only at hst
 have HS := Lib.hid hst
 have HLN := Lib.hid hst.len
 have HG := Lib.hid hg1
 have HB := Lib.hid (Blk.new w1 109 #[.slice A n c, .int .u8 t])
 have hdl := nb_len d
 have HDL := Lib.hid hdl
 clear hst hg1 hdl
 by_cases hlt : d.size < n
 · have q1 : decide ((d.size : Int) < (n : Int)) = true := decide_eq_true (by omega)
   have q1' : decide (d.size < n) = true := decide_eq_true hlt
   have HV := Lib.hid (show matchL (S, t) (nb d) = false by unfold matchL; rw [if_pos (by rw [HDL.out, HLN.out]; exact hlt)])
   go_wp2_with fail
   go_ret
   exact ⟨by rw [HV.out]; rfl, gr_alloc HG.out _⟩
 · have q1 : decide ((d.size : Int) < (n : Int)) = false := decide_eq_false (by omega)
   have q1' : decide (d.size < n) = false := decide_eq_false hlt
   have HV := Lib.hid (show matchL (S, t) (nb d) = (insL S (nb d) n && (if d.size = n then t != 46 else t != 0)) by
     unfold matchL; rw [if_neg (by rw [HDL.out, HLN.out]; exact hlt)]; dsimp only; rw [HLN.out, HDL.out])
   go_wp2_with fail
   go_loop [7, 8, 24] (fun _ _ v => ∃ i : Nat, i ≤ n ∧ v = .int .i64 i ∧ ∀ j, j < i → (nb d).getD j 0 ∈ setStr (S.getD j 0)) (fun _ _ v => n - (intOf v).toNat)
   case atStart => exact ⟨0, Nat.zero_le _, rfl, fun j hj => by omega⟩
   case round =>
     obtain ⟨i, hi, rfl, hin⟩ := hrel
     have HIN := Lib.hid hin; clear hin
     by_cases hil : i < n
     · obtain ⟨g, o, rfl, hg0, hgl, hc⟩ := HS.out.get hil
       have hid : i < d.size := by omega
       obtain ⟨q, hq⟩ : ∃ q, d[i].toNat = q := ⟨_, rfl⟩
       have q256 : q < 256 := by rw [← hq]; exact UInt8.toNat_lt _
       have HQ := Lib.hid (show (nb d).getD i 0 = q by rw [← nb_get hid, hq])
       obtain ⟨M, hM⟩ : ∃ M, S.getD i 0 = M := ⟨_, rfl⟩
       rw [hM] at hc
       obtain ⟨ss, hss⟩ : ∃ ss, strN (setStr M) = ss := ⟨_, rfl⟩
       rw [hss] at hc
       have HNS := Lib.hid (show nb ss = setStr M by rw [← hss]; exact nb_strN (setStr_bd M))
       obtain ⟨z, hz⟩ : ∃ z, idxL (setStr M) q = z := ⟨_, rfl⟩
       have HZ := Lib.hid hz
       have HM := Lib.hid hM
       have hi0 := idx_mem (l := setStr M) (c := q)
       rw [hz] at hi0
       clear hM hss hz
       by_cases hz0 : z < 0
       · have HN := Lib.hid (hi0.2.1 hz0)
         have HF := Lib.hid (show matchL (S, t) (nb d) = false by rw [HV.out, ins_false (i := i) (by rw [HQ.out, HM.out]; exact HN.out) hil]; rfl)
         clear hi0
         go_wp2_with (first
           | (go_at_call 69; refine (indexByteN ss q _ q256).mono ?_; rintro e w' ⟨rfl, rfl⟩; rw [HNS.out, HZ.out])
           | fail)
         go_ret
         exact ⟨by rw [HF.out]; rfl, gr_alloc HG.out _⟩
       · have HN := Lib.hid (hi0.1.1 (by omega))
         clear hi0
         go_wp2_with (first
           | (go_at_call 69; refine (indexByteN ss q _ q256).mono ?_; rintro e w' ⟨rfl, rfl⟩; rw [HNS.out, HZ.out])
           | fail)
         go_round
         case rel => exact ⟨i + 1, by omega, by go_num, fun j hj => by
           rcases Nat.lt_succ_iff_lt_or_eq.1 hj with h1 | h1
           · exact HIN.out j h1
           · subst h1; rw [HQ.out, HM.out]; exact HN.out⟩
         case measure => simp [intOf]; omega
     · obtain rfl : i = n := by omega
       have HT := Lib.hid (show matchL (S, t) (nb d) = (if d.size = i then t != 46 else t != 0) by rw [HV.out, ins_true HIN.out]; simp)
       rcases (by omega : d.size = i ∨ i < d.size) with hdi | hdi
       · have HE := Lib.hid (show matchL (S, t) (nb d) = (t != 46) by rw [HT.out, if_pos hdi])
         have hs0 : (d.size : Int) - (i : Int) = 0 := by omega
         obtain ⟨B, hB⟩ : ∃ B, (t != 46) = B := ⟨_, rfl⟩
         have hB2 : ((t : Int) != 46) = B := by rw [← hB, Bool.eq_iff_iff, bne_iff_ne, bne_iff_ne]; omega
         have HBB := Lib.hid hB
         clear hdi hlt
         cases B
         · go_wp2_with fail
           go_ret
           exact ⟨by rw [HE.out, HBB.out]; rfl, gr_alloc HG.out _⟩
         · go_wp2_with fail
           go_ret
           exact ⟨by rw [HE.out, HBB.out]; rfl, gr_alloc HG.out _⟩
       · have HE := Lib.hid (show matchL (S, t) (nb d) = (t != 0) by rw [HT.out, if_neg (by omega)])
         obtain ⟨e, he⟩ : ∃ e : Nat, (d.size : Int) - (i : Int) = (e : Int) := ⟨d.size - i, by omega⟩
         have b1 : ((e : Int) == 0) = false := by rw [beq_eq_false_iff_ne]; omega
         have b1' : (e == 0) = false := by rw [beq_eq_false_iff_ne]; omega
         have b2 : decide ((0 : Int) < (e : Int)) = true := decide_eq_true (by omega)
         have b2' : decide (0 < e) = true := decide_eq_true (by omega)
         have b3 : 0 < e := by omega
         obtain ⟨B, hB⟩ : ∃ B, (t != 0) = B := ⟨_, rfl⟩
         have hB2 : ((t : Int) != 0) = B := by rw [← hB, Bool.eq_iff_iff, bne_iff_ne, bne_iff_ne]; omega
         have HBB := Lib.hid hB
         cases B
         · go_wp2_with fail
           go_ret
           exact ⟨by rw [HE.out, HBB.out]; rfl, gr_alloc HG.out _⟩
         · go_wp2_with fail
           go_ret
           exact ⟨by rw [HE.out, HBB.out]; rfl, gr_alloc HG.out _⟩
end
end Go.Proofs.YteppdabhloieaaaGreatDoor

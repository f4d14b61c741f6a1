/- Contracts of the checks of arrivals, the program's and the document's. Conditions: none. -/
import Derived.Test.YtdknfhpconfhkaaRec
import Derived.Test.YtdknfhpconfhkaaPackets
import Derived.Test.YtdknfhpconfhkaaPktCheck
import Derived.Deep.QuietTactic
import Derived.BigQuiet
import Derived.Outline
import Derived.IntWalk
namespace Go.Proofs.Ytdknfhpconfhkaa
open Go.RowKit

/-- The first of f 0, f 1, .. f (n - 1) that is not 0; 0: there is none. -/
def firstNZ (f : Nat → Int) : Nat → Int
  | 0 => 0
  | n + 1 => if firstNZ f n = 0 then f n else firstNZ f n
theorem firstNZ_zero {f : Nat → Int} {i : Nat} (h : firstNZ f i = 0) (h1 : f i = 0) : firstNZ f (i + 1) = 0 := by simp [firstNZ, h, h1]
theorem firstNZ_stop {f : Nat → Int} {i n : Nat} (h : firstNZ f i = 0) (h1 : f i ≠ 0) (hn : i < n) : firstNZ f n = f i := by
  induction n with
  | zero => omega
  | succ n ih =>
    by_cases e : i = n
    · subst e; simp [firstNZ, h]
    · have := ih (by omega)
      simp [firstNZ, this, h1]
theorem firstNZ_all {f : Nat → Int} {n : Nat} (h : firstNZ f n = 0) : ∀ i, i < n → f i = 0 := by
  induction n with
  | zero => intro i hi; omega
  | succ n ih =>
    unfold firstNZ at h
    by_cases h0 : firstNZ f n = 0
    · rw [if_pos h0] at h
      intro i hi
      by_cases e : i = n
      · subst e; exact h
      · exact ih h0 i (by omega)
    · rw [if_neg h0] at h; exact absurd h h0

/-- An arrival, as it lies in memory: its numbers, where its payload lies, and what that is. -/
structure ArrV where
  at_ : Int
  ty : Int
  sq : Int
  tm : Int
  sr : Int
  mark : Bool
  A : Option Addr
  n : Nat
  c : Nat
  pay : List Int
def ArrV.row (a : ArrV) : List Value := [.int .i64 a.at_, .int .i64 a.ty, .int .i64 a.sq, .int .i64 a.tm, .int .i64 a.sr, .bool a.mark, .slice a.A a.n a.c]
theorem ArrV.row_len (a : ArrV) : a.row.length = 7 := rfl
def ArrV.Small (a : ArrV) : Prop := (-1099511627776 ≤ a.at_ ∧ a.at_ ≤ 1099511627776) ∧ (-1099511627776 ≤ a.ty ∧ a.ty ≤ 1099511627776) ∧ (-1099511627776 ≤ a.sq ∧ a.sq ≤ 1099511627776) ∧ (-1099511627776 ≤ a.tm ∧ a.tm ≤ 1099511627776) ∧ (-1099511627776 ≤ a.sr ∧ a.sr ≤ 1099511627776)
/-- A slice of arrivals: what it reads as. -/
def Arrs (w : World) (lo : Nat) (A : Option Addr) (n c : Nat) (l : List ArrV) : Prop := Recs ArrV.row 7 w lo A n c l ∧ ∀ a ∈ l, a.Small ∧ Bytes w lo a.A a.n a.c a.pay
theorem Bytes.grown {w w' : World} {lo : Nat} {A : Option Addr} {n c : Nat} {l : List Int} (h : Bytes w lo A n c l) {r : Option Nat} (hg : w.grownBy w' r) (hr : ∀ g, r = some g → g < lo) : Bytes w' lo A n c l := ⟨h.1.grown hg hr, h.2⟩
theorem Arrs.grown {w w' : World} {lo : Nat} {A : Option Addr} {n c : Nat} {l : List ArrV} (h : Arrs w lo A n c l) {r : Option Nat} (hg : w.grownBy w' r) (hr : ∀ g, r = some g → g < lo) : Arrs w' lo A n c l :=
  ⟨h.1.grown hg hr, fun a ha => ⟨(h.2 a ha).1, (h.2 a ha).2.grown hg hr⟩⟩

def isMom (n : Int) : Bool := inB n 0 345686399999
def arrAt (l : List ArrV) (i : Nat) : Int :=
  match l[i]?, l[0]? with
  | some a, some f => if isMom a.at_ then (if pktFault a.ty a.sq a.tm a.sr a.n = 0 then (match (if 0 < i then l[i - 1]? else none) with
      | some b => if a.at_ < b.at_ then 7 else if a.sr = f.sr then 0 else 13
      | none => if a.sr = f.sr then 0 else 13) else pktFault a.ty a.sq a.tm a.sr a.n) else 1
  | _, _ => 0
/-- What is wrong with arrivals. -/
def arrFault (l : List ArrV) : Int := if l.length > 2000 then 2 else firstNZ (arrAt l) l.length

theorem Try.arrT : StructT Try.prog 100 7 := ⟨_, Try.underlying100, rfl, by kernel_rfl⟩

set_option maxHeartbeats 1000000 in
theorem isMoment_any (n : Int) (w : World) : Calls Try.prog 79 #[.int .i64 n] w (Same (.bool (isMom n)) w) := by
  have H := Lib.hid (show isMom n = (decide (0 ≤ n) && decide (n ≤ 345686399999)) from rfl)
  by_cases h1 : 0 ≤ n <;> by_cases h2 : n < 345686400000
  all_goals
    go_enter Try.func79, Try.ntmps79
    go_wp2
    go_ret
    exact ⟨by rw [H.out]; simp [h1]; omega, rfl⟩
set_option maxHeartbeats 1000000 in
theorem moment_any (n : Int) (w : World) : Calls Try.prog 73 #[.int .i64 n] w (Same (.bool (isMom n)) w) := by
  go_enter Try.func73, Try.ntmps73
  go_wp2_with (first
    | (go_at_call 63; refine (in_any _ _ _ _).mono ?_; rintro e w' ⟨rfl, rfl⟩)
    | fail)
  go_ret
  exact ⟨rfl, rfl⟩

theorem arrAt_1 {l : List ArrV} {i : Nat} {a f : ArrV} (h : l[i]? = some a) (h0 : l[0]? = some f) (h1 : isMom a.at_ = false) : arrAt l i = 1 := by simp [arrAt, h, h0, h1]
theorem arrAt_p {l : List ArrV} {i : Nat} {a f : ArrV} (h : l[i]? = some a) (h0 : l[0]? = some f) (h1 : isMom a.at_ = true) (h2 : pktFault a.ty a.sq a.tm a.sr a.n ≠ 0) : arrAt l i = pktFault a.ty a.sq a.tm a.sr a.n := by simp [arrAt, h, h0, h1, h2]
theorem arrAt_7 {l : List ArrV} {i : Nat} {a f b : ArrV} (h : l[i]? = some a) (h0 : l[0]? = some f) (h1 : isMom a.at_ = true) (h2 : pktFault a.ty a.sq a.tm a.sr a.n = 0) (hi : 0 < i) (hb : l[i - 1]? = some b) (h3 : a.at_ < b.at_) : arrAt l i = 7 := by simp [arrAt, h, h0, h1, h2, hi, hb, h3]
theorem arrAt_e {l : List ArrV} {i : Nat} {a f b : ArrV} (h : l[i]? = some a) (h0 : l[0]? = some f) (h1 : isMom a.at_ = true) (h2 : pktFault a.ty a.sq a.tm a.sr a.n = 0) (hi : 0 < i) (hb : l[i - 1]? = some b) (h3 : ¬ a.at_ < b.at_) : arrAt l i = if a.sr = f.sr then 0 else 13 := by simp [arrAt, h, h0, h1, h2, hi, hb, h3]
theorem arrAt_f {l : List ArrV} {a f : ArrV} (h : l[0]? = some a) (h0 : l[0]? = some f) (h1 : isMom a.at_ = true) (h2 : pktFault a.ty a.sq a.tm a.sr a.n = 0) : arrAt l 0 = 0 := by
  rw [h] at h0; injection h0 with h0; subst h0; simp [arrAt, h, h1, h2]

set_option maxHeartbeats 4000000 in
theorem checkArrivals_any (lo : Nat) (A : Option Addr) (n c : Nat) (l : List ArrV) (w : World) (h : Arrs w lo A n c l) (hn : n ≤ 1000000000000) :
    Calls Try.prog 49 #[.slice A n c] w (RetV (.int .i64 (arrFault l)) w) := by
  have H := Lib.hid h; clear h
  by_cases hb : n > 2000
  · have HF := Lib.hid (show arrFault l = 2 by unfold arrFault; rw [if_pos (by rw [H.out.1.len]; exact hb)])
    have hb' : decide ((2000 : Int) < (n : Int)) = true := by simp; omega
    go_enter Try.func49, Try.ntmps49
    go_wp2_with fail
    go_ret
    exact ⟨by rw [HF.out]; rfl, gr_refl _ _⟩
  · have hb' : decide ((2000 : Int) < (n : Int)) = false := by simp; omega
    have HF := Lib.hid (show arrFault l = firstNZ (arrAt l) n by unfold arrFault; rw [if_neg (by rw [H.out.1.len]; exact hb), H.out.1.len])
    go_enter Try.func49, Try.ntmps49
    go_wp2_with fail
    go_loopw [3, 4, 5, 11] (fun _ _ _ t wr => ∃ i : Nat, i ≤ n ∧ t = .int .i64 i ∧ w.grownBy wr none ∧ firstNZ (arrAt l) i = 0) (fun _ _ _ t _ => n - (intOf t).toNat)
    case atStart => exact ⟨0, Nat.zero_le _, rfl, gr_refl _ _, rfl⟩
    case round =>
      obtain ⟨i, hi, rfl, hg, ha⟩ := hrel
      have HA := Lib.hid ha; have HG := Lib.hid hg; clear ha hg
      by_cases hlt : i < n
      · obtain ⟨g, o, z, rfl, _, hgl, hz, hc⟩ := (H.out.1.grown HG.out (fun g e => by cases e)).get ArrV.row_len hlt
        obtain ⟨f, hf⟩ : ∃ f, l[0]? = some f := ⟨_, List.getElem?_eq_getElem (by rw [H.out.1.len]; omega)⟩
        have HZ := Lib.hid hz; have HC := Lib.hid hc; have HF1 := Lib.hid hf; clear hz hc hf
        cases hm : isMom z.at_
        · go_wp2_with (first
            | (refine wpl_load_at Try.arrT rfl _ rfl _ rfl [.int .i64 z.at_, .int .i64 z.ty, .int .i64 z.sq, .int .i64 z.tm, .int .i64 z.sr, .bool z.mark, .slice z.A z.n z.c] rfl (fun j u hu => by rw [add_mk]; exact HC.out j u hu) ?_)
            | (go_at_call 79; refine (isMoment_any _ _).mono ?_; rintro e w' ⟨rfl, rfl⟩)
            | fail)
          go_ret
          have e := arrAt_1 HZ.out HF1.out hm
          exact ⟨by rw [HF.out, firstNZ_stop HA.out (by rw [e]; decide) hlt, e]; rfl, gr_alloc HG.out _⟩
        · go_wp2_with (first
            | (refine wpl_load_at Try.arrT rfl _ rfl _ rfl [.int .i64 z.at_, .int .i64 z.ty, .int .i64 z.sq, .int .i64 z.tm, .int .i64 z.sr, .bool z.mark, .slice z.A z.n z.c] rfl (fun j u hu => by rw [add_mk]; exact HC.out j u hu) ?_)
            | (go_at_call 79; refine (isMoment_any _ _).mono ?_; rintro e w' ⟨rfl, rfl⟩)
            | fail)
          refine (checkPacket_any _ _ _ _ _ _ _ _ _).mono ?_
          rintro e w2 ⟨rfl, hg2⟩
          have hB := ((Blk.new wr 100 _).grown hg2 (by simp))
          replace HG := Lib.hid (gr_none (gr_alloc HG.out _) hg2)
          have z2 := hg2.size; simp at z2
          have HR := Lib.hid (H.out.1.grown HG.out (fun g e => by cases e))
          have k0 := hB.cell 0
          have k4 := hB.cell 4
          have k04 := HR.out.at0 ArrV.row_len HF1.out 4 _ rfl
          have hHB := Lib.hid hB
          clear hg2 hB
          by_cases hp : pktFault z.ty z.sq z.tm z.sr z.n = 0
          · have hpb : (pktFault z.ty z.sq z.tm z.sr z.n != 0) = false := by simpa using hp
            have HP := Lib.hid hp; clear hp
            by_cases h0 : 0 < i
            · obtain ⟨b, hb⟩ : ∃ b, l[i - 1]? = some b := ⟨_, List.getElem?_eq_getElem (by rw [H.out.1.len]; omega)⟩
              have kb := HR.out.at_ ArrV.row_len hb 0 _ rfl
              simp only [Nat.add_zero] at kb
              have HB1 := Lib.hid hb; clear hb
              have hi0 : decide ((0 : Int) < (i : Int)) = true := by simpa using h0
              by_cases h7 : z.at_ < b.at_
              · have e := arrAt_7 HZ.out HF1.out hm HP.out h0 HB1.out h7
                have HFIN := Lib.hid (show arrFault l = 7 by rw [HF.out, firstNZ_stop HA.out (by rw [e]; decide) hlt, e])
                clear e
                have s2 : (0 : Int) ≤ (i : Int) - 1 := by omega
                have s5 : (1 : Int) ≤ (i : Int) := by omega
                have s3 : (i : Int) - 1 < (n : Int) := by omega
                have s6 : (0 : Int) < (n : Int) := by omega
                have s1 : IntKind.i64.wrap ((i : Int) - 1) = (i : Int) - 1 := IntWalk.i64_in _ (by omega)
                have s4 : ((i : Int) - 1).toNat = i - 1 := by omega
                go_wp2_with fail
                go_quiet (fail)
                go_wp2_with fail
                go_ret
                exact ⟨by rw [HFIN.out]; rfl, gr_drewN HG.out _⟩
              · have e := arrAt_e HZ.out HF1.out hm HP.out h0 HB1.out h7
                have he := Lib.hid e
                clear e
                have h7' : decide (z.at_ < b.at_) = false := by simpa using h7
                by_cases hs : z.sr = f.sr
                · have HE := Lib.hid (show arrAt l i = 0 by rw [he.out, if_pos hs])
                  have hs' : (z.sr != f.sr) = false := by simpa using hs
                  clear hs
                  have s2 : (0 : Int) ≤ (i : Int) - 1 := by omega
                  have s5 : (1 : Int) ≤ (i : Int) := by omega
                  have s3 : (i : Int) - 1 < (n : Int) := by omega
                  have s6 : (0 : Int) < (n : Int) := by omega
                  have s1 : IntKind.i64.wrap ((i : Int) - 1) = (i : Int) - 1 := IntWalk.i64_in _ (by omega)
                  have s4 : ((i : Int) - 1).toNat = i - 1 := by omega
                  go_wp2_with fail
                  go_quiet (fail)
                  go_wp2_with fail
                  clear s1 s4
                  go_quiet (fail)
                  go_wp2_with fail
                  go_roundw
                  case rel => exact ⟨i + 1, by omega, by go_num, gr_drewN HG.out _, firstNZ_zero HA.out HE.out⟩
                  case measure => simp [intOf]; omega
                · have HE := Lib.hid (show arrAt l i = 13 by rw [he.out, if_neg hs])
                  have hs' : (z.sr != f.sr) = true := by simpa using hs
                  have HFIN := Lib.hid (show arrFault l = 13 by rw [HF.out, firstNZ_stop HA.out (by rw [HE.out]; decide) hlt, HE.out])
                  clear hs
                  have s2 : (0 : Int) ≤ (i : Int) - 1 := by omega
                  have s5 : (1 : Int) ≤ (i : Int) := by omega
                  have s3 : (i : Int) - 1 < (n : Int) := by omega
                  have s6 : (0 : Int) < (n : Int) := by omega
                  have s1 : IntKind.i64.wrap ((i : Int) - 1) = (i : Int) - 1 := IntWalk.i64_in _ (by omega)
                  have s4 : ((i : Int) - 1).toNat = i - 1 := by omega
                  go_wp2_with fail
                  go_quiet (fail)
                  go_wp2_with fail
                  clear s1 s4
                  go_quiet (fail)
                  go_wp2_with fail
                  go_ret
                  exact ⟨by rw [HFIN.out]; rfl, gr_drewN (gr_drewN HG.out _) _⟩
            · have h00 : i = 0 := by omega
              have hz0 := HZ.out
              rw [h00, HF1.out] at hz0
              injection hz0 with hz0
              subst hz0
              have HE := Lib.hid (show arrAt l i = 0 by rw [h00]; exact arrAt_f HF1.out HF1.out hm HP.out)
              clear h00
              have hi0 : decide ((0 : Int) < (i : Int)) = false := by simpa using h0
              have hi1 : decide (0 < i) = false := by simpa using h0
              have hs' : (f.sr != f.sr) = false := by simp
              go_wp2_with fail
              go_quiet (fail)
              go_wp2_with fail
              go_quiet (fail)
              go_wp2_with fail
              go_roundw
              case rel => exact ⟨i + 1, by omega, by go_num, gr_drewN HG.out _, firstNZ_zero HA.out HE.out⟩
              case measure => simp [intOf]; omega
          · have hpb : (pktFault z.ty z.sq z.tm z.sr z.n != 0) = true := by simpa using hp
            have e := arrAt_p HZ.out HF1.out hm hp
            have HFIN := Lib.hid (show arrFault l = pktFault z.ty z.sq z.tm z.sr z.n by rw [HF.out, firstNZ_stop HA.out (by rw [e]; exact hp) hlt, e])
            clear e hp
            go_wp2_with fail
            go_ret
            exact ⟨by rw [HFIN.out]; rfl, HG.out⟩
      · obtain rfl : i = n := by omega
        go_wp2_with fail
        go_ret
        exact ⟨by rw [HF.out, HA.out]; rfl, HG.out⟩
set_option maxHeartbeats 4000000 in
theorem arrivalsFault_any (lo : Nat) (A : Option Addr) (n c : Nat) (l : List ArrV) (w : World) (h : Arrs w lo A n c l) (hn : n ≤ 1000000000000) :
    Calls Try.prog 36 #[.slice A n c] w (RetV (.int .i64 (arrFault l)) w) := by
  have H := Lib.hid h; clear h
  by_cases hb : n > 2000
  · have HF := Lib.hid (show arrFault l = 2 by unfold arrFault; rw [if_pos (by rw [H.out.1.len]; exact hb)])
    have hb' : decide ((2000 : Int) < (n : Int)) = true := by simp; omega
    go_enter Try.func36, Try.ntmps36
    go_wp2_with fail
    go_ret
    exact ⟨by rw [HF.out]; rfl, gr_refl _ _⟩
  · have hb' : decide ((2000 : Int) < (n : Int)) = false := by simp; omega
    have HF := Lib.hid (show arrFault l = firstNZ (arrAt l) n by unfold arrFault; rw [if_neg (by rw [H.out.1.len]; exact hb), H.out.1.len])
    go_enter Try.func36, Try.ntmps36
    go_wp2_with fail
    go_loopw [3, 4, 5, 11] (fun _ _ _ t wr => ∃ i : Nat, i ≤ n ∧ t = .int .i64 i ∧ w.grownBy wr none ∧ firstNZ (arrAt l) i = 0) (fun _ _ _ t _ => n - (intOf t).toNat)
    case atStart => exact ⟨0, Nat.zero_le _, rfl, gr_refl _ _, rfl⟩
    case round =>
      obtain ⟨i, hi, rfl, hg, ha⟩ := hrel
      have HA := Lib.hid ha; have HG := Lib.hid hg; clear ha hg
      by_cases hlt : i < n
      · obtain ⟨g, o, z, rfl, _, hgl, hz, hc⟩ := (H.out.1.grown HG.out (fun g e => by cases e)).get ArrV.row_len hlt
        obtain ⟨f, hf⟩ : ∃ f, l[0]? = some f := ⟨_, List.getElem?_eq_getElem (by rw [H.out.1.len]; omega)⟩
        have HZ := Lib.hid hz; have HC := Lib.hid hc; have HF1 := Lib.hid hf; clear hz hc hf
        cases hm : isMom z.at_
        · go_wp2_with (first
            | (refine wpl_load_at Try.arrT rfl _ rfl _ rfl [.int .i64 z.at_, .int .i64 z.ty, .int .i64 z.sq, .int .i64 z.tm, .int .i64 z.sr, .bool z.mark, .slice z.A z.n z.c] rfl (fun j u hu => by rw [add_mk]; exact HC.out j u hu) ?_)
            | (go_at_call 73; refine (moment_any _ _).mono ?_; rintro e w' ⟨rfl, rfl⟩)
            | fail)
          go_ret
          have e := arrAt_1 HZ.out HF1.out hm
          exact ⟨by rw [HF.out, firstNZ_stop HA.out (by rw [e]; decide) hlt, e]; rfl, gr_alloc HG.out _⟩
        · go_wp2_with (first
            | (refine wpl_load_at Try.arrT rfl _ rfl _ rfl [.int .i64 z.at_, .int .i64 z.ty, .int .i64 z.sq, .int .i64 z.tm, .int .i64 z.sr, .bool z.mark, .slice z.A z.n z.c] rfl (fun j u hu => by rw [add_mk]; exact HC.out j u hu) ?_)
            | (go_at_call 73; refine (moment_any _ _).mono ?_; rintro e w' ⟨rfl, rfl⟩)
            | fail)
          refine (packetFault_any _ _ _ _ _ _ _ _ _).mono ?_
          rintro e w2 ⟨rfl, hg2⟩
          have hB := ((Blk.new wr 100 _).grown hg2 (by simp))
          replace HG := Lib.hid (gr_none (gr_alloc HG.out _) hg2)
          have z2 := hg2.size; simp at z2
          have HR := Lib.hid (H.out.1.grown HG.out (fun g e => by cases e))
          have k0 := hB.cell 0
          have k4 := hB.cell 4
          have k04 := HR.out.at0 ArrV.row_len HF1.out 4 _ rfl
          have hHB := Lib.hid hB
          clear hg2 hB
          by_cases hp : pktFault z.ty z.sq z.tm z.sr z.n = 0
          · have hpb : (pktFault z.ty z.sq z.tm z.sr z.n != 0) = false := by simpa using hp
            have HP := Lib.hid hp; clear hp
            by_cases h0 : 0 < i
            · obtain ⟨b, hb⟩ : ∃ b, l[i - 1]? = some b := ⟨_, List.getElem?_eq_getElem (by rw [H.out.1.len]; omega)⟩
              have kb := HR.out.at_ ArrV.row_len hb 0 _ rfl
              simp only [Nat.add_zero] at kb
              have HB1 := Lib.hid hb; clear hb
              have hi0 : decide ((0 : Int) < (i : Int)) = true := by simpa using h0
              by_cases h7 : z.at_ < b.at_
              · have e := arrAt_7 HZ.out HF1.out hm HP.out h0 HB1.out h7
                have HFIN := Lib.hid (show arrFault l = 7 by rw [HF.out, firstNZ_stop HA.out (by rw [e]; decide) hlt, e])
                clear e
                have s2 : (0 : Int) ≤ (i : Int) - 1 := by omega
                have s5 : (1 : Int) ≤ (i : Int) := by omega
                have s3 : (i : Int) - 1 < (n : Int) := by omega
                have s6 : (0 : Int) < (n : Int) := by omega
                have s1 : IntKind.i64.wrap ((i : Int) - 1) = (i : Int) - 1 := IntWalk.i64_in _ (by omega)
                have s4 : ((i : Int) - 1).toNat = i - 1 := by omega
                go_wp2_with fail
                go_quiet (fail)
                go_wp2_with fail
                go_ret
                exact ⟨by rw [HFIN.out]; rfl, gr_drewN HG.out _⟩
              · have e := arrAt_e HZ.out HF1.out hm HP.out h0 HB1.out h7
                have he := Lib.hid e
                clear e
                have h7' : decide (z.at_ < b.at_) = false := by simpa using h7
                by_cases hs : z.sr = f.sr
                · have HE := Lib.hid (show arrAt l i = 0 by rw [he.out, if_pos hs])
                  have hs' : (z.sr != f.sr) = false := by simpa using hs
                  clear hs
                  have s2 : (0 : Int) ≤ (i : Int) - 1 := by omega
                  have s5 : (1 : Int) ≤ (i : Int) := by omega
                  have s3 : (i : Int) - 1 < (n : Int) := by omega
                  have s6 : (0 : Int) < (n : Int) := by omega
                  have s1 : IntKind.i64.wrap ((i : Int) - 1) = (i : Int) - 1 := IntWalk.i64_in _ (by omega)
                  have s4 : ((i : Int) - 1).toNat = i - 1 := by omega
                  go_wp2_with fail
                  go_quiet (fail)
                  go_wp2_with fail
                  clear s1 s4
                  go_quiet (fail)
                  go_wp2_with fail
                  go_roundw
                  case rel => exact ⟨i + 1, by omega, by go_num, gr_drewN HG.out _, firstNZ_zero HA.out HE.out⟩
                  case measure => simp [intOf]; omega
                · have HE := Lib.hid (show arrAt l i = 13 by rw [he.out, if_neg hs])
                  have hs' : (z.sr != f.sr) = true := by simpa using hs
                  have HFIN := Lib.hid (show arrFault l = 13 by rw [HF.out, firstNZ_stop HA.out (by rw [HE.out]; decide) hlt, HE.out])
                  clear hs
                  have s2 : (0 : Int) ≤ (i : Int) - 1 := by omega
                  have s5 : (1 : Int) ≤ (i : Int) := by omega
                  have s3 : (i : Int) - 1 < (n : Int) := by omega
                  have s6 : (0 : Int) < (n : Int) := by omega
                  have s1 : IntKind.i64.wrap ((i : Int) - 1) = (i : Int) - 1 := IntWalk.i64_in _ (by omega)
                  have s4 : ((i : Int) - 1).toNat = i - 1 := by omega
                  go_wp2_with fail
                  go_quiet (fail)
                  go_wp2_with fail
                  clear s1 s4
                  go_quiet (fail)
                  go_wp2_with fail
                  go_ret
                  exact ⟨by rw [HFIN.out]; rfl, gr_drewN (gr_drewN HG.out _) _⟩
            · have h00 : i = 0 := by omega
              have hz0 := HZ.out
              rw [h00, HF1.out] at hz0
              injection hz0 with hz0
              subst hz0
              have HE := Lib.hid (show arrAt l i = 0 by rw [h00]; exact arrAt_f HF1.out HF1.out hm HP.out)
              clear h00
              have hi0 : decide ((0 : Int) < (i : Int)) = false := by simpa using h0
              have hi1 : decide (0 < i) = false := by simpa using h0
              have hs' : (f.sr != f.sr) = false := by simp
              go_wp2_with fail
              go_quiet (fail)
              go_wp2_with fail
              go_quiet (fail)
              go_wp2_with fail
              go_roundw
              case rel => exact ⟨i + 1, by omega, by go_num, gr_drewN HG.out _, firstNZ_zero HA.out HE.out⟩
              case measure => simp [intOf]; omega
          · have hpb : (pktFault z.ty z.sq z.tm z.sr z.n != 0) = true := by simpa using hp
            have e := arrAt_p HZ.out HF1.out hm hp
            have HFIN := Lib.hid (show arrFault l = pktFault z.ty z.sq z.tm z.sr z.n by rw [HF.out, firstNZ_stop HA.out (by rw [e]; exact hp) hlt, e])
            clear e hp
            go_wp2_with fail
            go_ret
            exact ⟨by rw [HFIN.out]; rfl, HG.out⟩
      · obtain rfl : i = n := by omega
        go_wp2_with fail
        go_ret
        exact ⟨by rw [HF.out, HA.out]; rfl, HG.out⟩
end Go.Proofs.Ytdknfhpconfhkaa

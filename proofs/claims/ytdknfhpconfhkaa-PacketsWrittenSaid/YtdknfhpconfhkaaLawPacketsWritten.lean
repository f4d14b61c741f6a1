/- The law PacketsWritten: for every input the call returns true, and the argument reads as before. Conditions: none. -/
import Derived.Test.YtdknfhpconfhkaaRows
import Derived.Test.YtdknfhpconfhkaaLawBase
import Derived.Test.YtdknfhpconfhkaaPktSame
import Derived.Test.YtdknfhpconfhkaaPktGenB
import Derived.ProofKit
import Derived.OpenShut
import Derived.ShutString
import Derived.ChangeOld
namespace Go.Proofs.Ytdknfhpconfhkaa
open Go.ChangeShapes Go.WideShapes Go.ChangeAt Go.RowKit
open Go.ChangeMaps (open_string shut_string)

theorem pktBytes_len (ty sq tm sr : Int) (mk : Bool) (l : List Int) : (pktBytes ty sq tm sr mk l).length = 12 + l.length := by
  simp [pktBytes, beBytes_len]; omega

set_option maxRecDepth 100000 in
set_option maxHeartbeats 8000000 in
theorem walk_PacketsWritten (a0 : Option Addr) (len0 cap0 : Nat) (z0 : List Int) (w : World) (w0 : IsRow .i64 w a0 len0 cap0 z0) :
    Calls Try.prog 3 #[.slice a0 len0 cap0] w fun e w' => e = .returned (.bool true) ∧ Below w.heap.size w w' := by
  have hs0 := str_new w0
  clear w0
  obtain ⟨sb, hsb⟩ : ∃ sb, w.heap.size = sb := ⟨_, rfl⟩
  have hlt : sb = w.heap.size := hsb.symm
  have HLT := Lib.hid hlt
  have hlt1 : sb ≤ w.heap.size := by omega
  have hlt2 : w.heap.size ≤ sb := by omega
  have HSB := Lib.hid hsb
  rw [hsb] at hs0
  clear hlt hsb
  have HS := Lib.hid hs0; clear hs0
  have HG := Lib.hid (gr_refl w (some sb))
  go_enter Try.func3, Try.ntmps3
  go_wp2_with fail
  simp only [HSB.out]
  refine (packet_any sb _ _ (by exact HS.out) (by omega)).mono ?_
  rintro e w1 ⟨v1, rfl, ⟨ty, sq, tm, sr, mk, A, n, c, l, rfl, b1, b2, b3, b4, hn, hy, hl⟩, hs1, hg1⟩
  have HY := Lib.hid (Own.lower hy (show sb + 1 ≤ _ by simp; omega)); have HL := Lib.hid hl; clear hy hl
  have z1 := hg1.size; try simp at z1
  try replace HZ := Lib.hid (HZ.out.grown hg1 (by simp; omega))
  try replace HP := Lib.hid (HP.out.grown hg1 (by simp; omega))
  try replace HY := Lib.hid (Own.kept HY.out hg1 (fun g e e' => by injection e with e; have := (HY.out.lt e').1; omega))
  replace HG := Lib.hid (gr_same (a := w) (by repeat (first | exact HG.out | refine gr_alloc ?_ _ | refine gr_drew ?_ | refine gr_drewN ?_ _ | refine gr_setCell ?_ (.inr (by simp; omega)) _)) hg1); clear hg1
  replace HS := Lib.hid hs1; clear hs1
  go_wp2_with fail
  refine (packetBytesGen_any sb _ _ (by exact HS.out) (by omega)).mono ?_
  rintro e w2 ⟨v2, rfl, ⟨A2, n2, c2, l2, rfl, ho2, hl2, hn2⟩, hs2, hg2⟩
  have HB := Lib.hid ho2; have HL2 := Lib.hid hl2; clear ho2 hl2
  have z2 := hg2.size; try simp at z2
  try replace HZ := Lib.hid (HZ.out.grown hg2 (by simp; omega))
  try replace HP := Lib.hid (HP.out.grown hg2 (by simp; omega))
  try replace HY := Lib.hid (Own.kept HY.out hg2 (fun g e e' => by injection e with e; have := (HY.out.lt e').1; omega))
  replace HG := Lib.hid (gr_same (a := w) (by repeat (first | exact HG.out | refine gr_alloc ?_ _ | refine gr_drew ?_ | refine gr_drewN ?_ _ | refine gr_setCell ?_ (.inr (by simp; omega)) _)) hg2); clear hg2
  replace HS := Lib.hid hs2; clear hs2
  have HBL := Lib.hid (show l2.length = n2 by have h := Own.len HB.out; simpa using h)
  go_wp2_with (first
    | (refine wpl_load_all Try.pktT rfl _ rfl _ rfl _ _ (Blk.new _ _ _) rfl ?_)
    | fail)
  refine (write_any ty sq tm sr mk _ A n c l _ ((OwnB.bytes HY.out HL.out).grown (gr_alloc (gr_refl _ none) _) (fun g e => by cases e))).mono ?_
  rintro e w3 ⟨v3, rfl, ⟨A3, n3, c3, rfl, hx3⟩, hg3⟩
  have HP := Lib.hid ((Blk.new w2 28 _).grown hg3 (by simp))
  have z3 := hg3.size; simp at z3
  have HN := Lib.hid (gr_none (gr_alloc (gr_refl w2 none) _) hg3)
  have HX := Lib.hid hx3
  clear hg3 hx3
  have hn3 : n3 ≤ 5000 := by
    have h := HX.out.1.len
    have hll := Own.len HY.out
    simp at hll
    split at h
    · rw [pktBytes_len] at h; omega
    · simp at h; omega
  go_wp2_with (first
    | (refine wpl_load_all Try.pktT rfl _ rfl _ rfl _ _ HP.out rfl ?_)
    | fail)
  refine (packetFault_any ty sq tm sr mk A n c _).mono ?_
  rintro e w4 ⟨rfl, hg4⟩
  replace HP := Lib.hid (HP.out.grown hg4 (by simp))
  have z4 := hg4.size
  replace HN := Lib.hid (gr_none HN.out hg4)
  replace HX := Lib.hid (HX.out.grown hg4 (fun g e => by cases e))
  clear hg4
  by_cases hf : pktFault ty sq tm sr n = 0
  · have HF := Lib.hid hf
    rw [hf] at HX ⊢
    rw [if_pos rfl] at HX
    obtain ⟨q1, q2, q3, q4, q5⟩ := pktFault_ok hf
    have hfb : (pktFault ty sq tm sr n == 0) = true := by simpa using hf
    clear hf
    go_wp2_with (first
      | (refine wpl_load_all Try.pktT rfl _ rfl _ rfl _ _ HP.out rfl ?_)
      | fail)
    refine (packetBytes_any ty sq tm sr mk _ A n c l _ ((OwnB.bytes HY.out HL.out).grown HN.out (fun g e => by cases e)) q1 ⟨by omega, by omega⟩ q3 q4 (by omega)).mono ?_
    rintro e w5 ⟨v5, rfl, ⟨A5, c5, rfl, ho5⟩, hg5⟩
    replace HP := Lib.hid (HP.out.grown hg5 (by simp))
    have z5 := hg5.size
    replace HN := Lib.hid (gr_none HN.out hg5)
    replace HX := Lib.hid (HX.out.grown hg5 (fun g e => by cases e))
    have HW := Lib.hid ho5
    clear hg5 ho5
    by_cases hr : rdFault l2 = 0
    · go_wp2_with fail
      refine (readPacket_any _ A2 n2 c2 l2 _ ((OwnB.bytes HB.out HL2.out).grown HN.out (fun g e => by cases e)) (by omega)).mono ?_
      rintro e w6 ⟨v6, rfl, hv6, hg6⟩
      replace HP := Lib.hid (HP.out.grown hg6 (by simp))
      have z6 := hg6.size
      replace HN := Lib.hid (gr_none HN.out hg6)
      try replace HW := Lib.hid (Own.kept HW.out hg6 (fun g e => by cases e))
      have HX := Lib.hid (HX.out.grown hg6 (fun g e => by cases e))
      clear hg6
      unfold IsPktErr at hv6
      rw [if_pos hr] at hv6
      obtain ⟨y, Aq, nq, cq, hy1, rfl, hpq, hnq⟩ := hv6
      have HPQ := Lib.hid hpq; have HY1 := Lib.hid hy1
      clear hpq hy1
      go_wp2_with fail
      refine (packetRead_any _ A2 n2 c2 l2 _ ((OwnB.bytes HB.out HL2.out).grown (by exact gr_alloc HN.out _) (fun g e => by cases e)) (by omega)).mono ?_
      rintro e w7 ⟨v7, rfl, hv7, hg7⟩
      replace HP := Lib.hid ((HP.out.alloc _).grown hg7 (by simp))
      have HQ := Lib.hid ((Blk.new w6 28 _).grown hg7 (by simp))
      have z7 := hg7.size; simp at z7
      replace HN := Lib.hid (gr_none (gr_alloc HN.out _) hg7)
      try replace HW := Lib.hid (Own.kept (Own.alloc HW.out _) hg7 (fun g e => by cases e))
      replace HX := Lib.hid ((HX.out.grown (gr_alloc (gr_refl _ none) _) (fun g e => by cases e)).grown hg7 (fun g e => by cases e))
      replace HPQ := Lib.hid ((HPQ.out.alloc _).grown hg7 (fun g e => by cases e))
      clear hg7
      unfold IsPktErr at hv7
      rw [if_pos hr] at hv7
      obtain ⟨y', Ar, nr, cr, hy2, rfl, hpr, hnr⟩ := hv7
      obtain rfl : y = y' := by have h := HY1.out; rw [hy2] at h; injection h with h; exact h.symm
      have HPR := Lib.hid hpr
      clear hpr hy2 hr
      go_wp2_with (first
        | (refine wpl_load_all Try.pktT rfl _ rfl _ rfl _ _ (HP.out.alloc _) rfl ?_)
        | fail)
      refine (checkPacket_any ty sq tm sr mk A n c _).mono ?_
      rintro e w8 ⟨rfl, hg8⟩
      have z8 := hg8.size; simp at z8
      replace HP := Lib.hid ((HP.out.alloc _).grown hg8 (by simp))
      replace HQ := Lib.hid ((HQ.out.alloc _).grown hg8 (by simp))
      have HR := Lib.hid ((Blk.new w7 28 _).grown hg8 (by simp))
      replace HN := Lib.hid (gr_none (gr_alloc HN.out _) hg8)
      try replace HW := Lib.hid (Own.kept (Own.alloc HW.out _) hg8 (fun g e => by cases e))
      replace HX := Lib.hid ((HX.out.grown (gr_alloc (gr_refl _ none) _) (fun g e => by cases e)).grown hg8 (fun g e => by cases e))
      replace HPQ := Lib.hid ((HPQ.out.alloc _).grown hg8 (fun g e => by cases e))
      replace HPR := Lib.hid ((HPR.out.alloc _).grown hg8 (fun g e => by cases e))
      clear hg8
      go_wp2_with fail
      have cQ := HQ.out.cell
      have cR := HR.out.cell
      refine (equalB_any _ 0 _ _ _ _ _ _ _ (pktBytes ty sq tm sr mk l) _ HX.out.1 ((Own.reads HW.out).lower (Nat.zero_le _)) (by omega)).mono ?_
      rintro e w9 ⟨rfl, k9, rfl⟩
      rw [show (((pktBytes ty sq tm sr mk l) : List Int) == (pktBytes ty sq tm sr mk l)) = true from beq_self_eq_true _]
      go_wp2_with fail
      refine (samePacket_same _ _ _ _ _ _ _ _ _ _ _ _ _ _ _ (by first | exact HPQ.out.drewN _ | exact Ints.none_ (lo := 0)) (by first | exact HPR.out.drewN _ | exact Ints.none_ (lo := 0)) (by omega)).mono ?_
      rintro e w10 ⟨rfl, hg10⟩
      have HN10 := Lib.hid (gr_none (gr_drewN HN.out _) hg10); clear hg10
      go_wp2_with (first
        | (go_at_call 19
           refine (sounded_true _).mono ?_
           rintro e w11 ⟨rfl, rfl⟩)
        | fail)
      go_ret
      refine ⟨by simp, ?_⟩
      have h := gr_none HG.out HN10.out
      rw [HLT.out] at h
      exact below_of_gr h
    · go_wp2_with fail
      refine (readPacket_any _ A2 n2 c2 l2 _ ((OwnB.bytes HB.out HL2.out).grown HN.out (fun g e => by cases e)) (by omega)).mono ?_
      rintro e w6 ⟨v6, rfl, hv6, hg6⟩
      replace HP := Lib.hid (HP.out.grown hg6 (by simp))
      have z6 := hg6.size
      replace HN := Lib.hid (gr_none HN.out hg6)
      try replace HW := Lib.hid (Own.kept HW.out hg6 (fun g e => by cases e))
      have HX := Lib.hid (HX.out.grown hg6 (fun g e => by cases e))
      clear hg6
      unfold IsPktErr at hv6
      rw [if_neg hr] at hv6
      subst hv6
      go_wp2_with fail
      refine (packetRead_any _ A2 n2 c2 l2 _ ((OwnB.bytes HB.out HL2.out).grown (by exact gr_alloc HN.out _) (fun g e => by cases e)) (by omega)).mono ?_
      rintro e w7 ⟨v7, rfl, hv7, hg7⟩
      replace HP := Lib.hid ((HP.out.alloc _).grown hg7 (by simp))
      have HQ := Lib.hid ((Blk.new w6 28 _).grown hg7 (by simp))
      have z7 := hg7.size; simp at z7
      replace HN := Lib.hid (gr_none (gr_alloc HN.out _) hg7)
      try replace HW := Lib.hid (Own.kept (Own.alloc HW.out _) hg7 (fun g e => by cases e))
      replace HX := Lib.hid ((HX.out.grown (gr_alloc (gr_refl _ none) _) (fun g e => by cases e)).grown hg7 (fun g e => by cases e))
      clear hg7
      unfold IsPktErr at hv7
      rw [if_neg hr] at hv7
      subst hv7
      clear hr
      go_wp2_with (first
        | (refine wpl_load_all Try.pktT rfl _ rfl _ rfl _ _ (HP.out.alloc _) rfl ?_)
        | fail)
      refine (checkPacket_any ty sq tm sr mk A n c _).mono ?_
      rintro e w8 ⟨rfl, hg8⟩
      have z8 := hg8.size; simp at z8
      replace HP := Lib.hid ((HP.out.alloc _).grown hg8 (by simp))
      replace HQ := Lib.hid ((HQ.out.alloc _).grown hg8 (by simp))
      have HR := Lib.hid ((Blk.new w7 28 _).grown hg8 (by simp))
      replace HN := Lib.hid (gr_none (gr_alloc HN.out _) hg8)
      try replace HW := Lib.hid (Own.kept (Own.alloc HW.out _) hg8 (fun g e => by cases e))
      replace HX := Lib.hid ((HX.out.grown (gr_alloc (gr_refl _ none) _) (fun g e => by cases e)).grown hg8 (fun g e => by cases e))
      clear hg8
      go_wp2_with fail
      have cQ := HQ.out.cell
      have cR := HR.out.cell
      refine (equalB_any _ 0 _ _ _ _ _ _ _ (pktBytes ty sq tm sr mk l) _ HX.out.1 ((Own.reads HW.out).lower (Nat.zero_le _)) (by omega)).mono ?_
      rintro e w9 ⟨rfl, k9, rfl⟩
      rw [show (((pktBytes ty sq tm sr mk l) : List Int) == (pktBytes ty sq tm sr mk l)) = true from beq_self_eq_true _]
      go_wp2_with fail
      refine (samePacket_same _ _ _ _ _ _ _ _ _ _ _ _ _ _ _ (by first | exact HPQ.out.drewN _ | exact Ints.none_ (lo := 0)) (by first | exact HPR.out.drewN _ | exact Ints.none_ (lo := 0)) (by omega)).mono ?_
      rintro e w10 ⟨rfl, hg10⟩
      have HN10 := Lib.hid (gr_none (gr_drewN HN.out _) hg10); clear hg10
      go_wp2_with (first
        | (go_at_call 19
           refine (sounded_true _).mono ?_
           rintro e w11 ⟨rfl, rfl⟩)
        | fail)
      go_ret
      refine ⟨by simp, ?_⟩
      have h := gr_none HG.out HN10.out
      rw [HLT.out] at h
      exact below_of_gr h
  · have hfb : (pktFault ty sq tm sr n == 0) = false := by simpa using hf
    have HF := Lib.hid hf
    rw [if_neg hf] at HX
    clear hf
    by_cases hr : rdFault l2 = 0
    · go_wp2_with fail
      refine (readPacket_any _ A2 n2 c2 l2 _ ((OwnB.bytes HB.out HL2.out).grown HN.out (fun g e => by cases e)) (by omega)).mono ?_
      rintro e w6 ⟨v6, rfl, hv6, hg6⟩
      replace HP := Lib.hid (HP.out.grown hg6 (by simp))
      have z6 := hg6.size
      replace HN := Lib.hid (gr_none HN.out hg6)
      try replace HW := Lib.hid (Own.kept HW.out hg6 (fun g e => by cases e))
      have HX := Lib.hid (HX.out.grown hg6 (fun g e => by cases e))
      clear hg6
      unfold IsPktErr at hv6
      rw [if_pos hr] at hv6
      obtain ⟨y, Aq, nq, cq, hy1, rfl, hpq, hnq⟩ := hv6
      have HPQ := Lib.hid hpq; have HY1 := Lib.hid hy1
      clear hpq hy1
      go_wp2_with fail
      refine (packetRead_any _ A2 n2 c2 l2 _ ((OwnB.bytes HB.out HL2.out).grown (by exact gr_alloc HN.out _) (fun g e => by cases e)) (by omega)).mono ?_
      rintro e w7 ⟨v7, rfl, hv7, hg7⟩
      replace HP := Lib.hid ((HP.out.alloc _).grown hg7 (by simp))
      have HQ := Lib.hid ((Blk.new w6 28 _).grown hg7 (by simp))
      have z7 := hg7.size; simp at z7
      replace HN := Lib.hid (gr_none (gr_alloc HN.out _) hg7)
      try replace HW := Lib.hid (Own.kept (Own.alloc HW.out _) hg7 (fun g e => by cases e))
      replace HX := Lib.hid ((HX.out.grown (gr_alloc (gr_refl _ none) _) (fun g e => by cases e)).grown hg7 (fun g e => by cases e))
      replace HPQ := Lib.hid ((HPQ.out.alloc _).grown hg7 (fun g e => by cases e))
      clear hg7
      unfold IsPktErr at hv7
      rw [if_pos hr] at hv7
      obtain ⟨y', Ar, nr, cr, hy2, rfl, hpr, hnr⟩ := hv7
      obtain rfl : y = y' := by have h := HY1.out; rw [hy2] at h; injection h with h; exact h.symm
      have HPR := Lib.hid hpr
      clear hpr hy2 hr
      go_wp2_with (first
        | (refine wpl_load_all Try.pktT rfl _ rfl _ rfl _ _ (HP.out.alloc _) rfl ?_)
        | fail)
      refine (checkPacket_any ty sq tm sr mk A n c _).mono ?_
      rintro e w8 ⟨rfl, hg8⟩
      have z8 := hg8.size; simp at z8
      replace HP := Lib.hid ((HP.out.alloc _).grown hg8 (by simp))
      replace HQ := Lib.hid ((HQ.out.alloc _).grown hg8 (by simp))
      have HR := Lib.hid ((Blk.new w7 28 _).grown hg8 (by simp))
      replace HN := Lib.hid (gr_none (gr_alloc HN.out _) hg8)
      try replace HW := Lib.hid (Own.kept (Own.alloc HW.out _) hg8 (fun g e => by cases e))
      replace HX := Lib.hid ((HX.out.grown (gr_alloc (gr_refl _ none) _) (fun g e => by cases e)).grown hg8 (fun g e => by cases e))
      replace HPQ := Lib.hid ((HPQ.out.alloc _).grown hg8 (fun g e => by cases e))
      replace HPR := Lib.hid ((HPR.out.alloc _).grown hg8 (fun g e => by cases e))
      clear hg8
      go_wp2_with fail
      have cQ := HQ.out.cell
      have cR := HR.out.cell
      refine (equalB_any _ 0 _ _ _ _ _ _ _ [] _ HX.out.1 Ints.none_ (by omega)).mono ?_
      rintro e w9 ⟨rfl, k9, rfl⟩
      rw [show (([] : List Int) == []) = true from beq_self_eq_true _]
      go_wp2_with fail
      refine (samePacket_same _ _ _ _ _ _ _ _ _ _ _ _ _ _ _ (by first | exact HPQ.out.drewN _ | exact Ints.none_ (lo := 0)) (by first | exact HPR.out.drewN _ | exact Ints.none_ (lo := 0)) (by omega)).mono ?_
      rintro e w10 ⟨rfl, hg10⟩
      have HN10 := Lib.hid (gr_none (gr_drewN HN.out _) hg10); clear hg10
      go_wp2_with (first
        | (go_at_call 19
           refine (sounded_true _).mono ?_
           rintro e w11 ⟨rfl, rfl⟩)
        | fail)
      go_ret
      refine ⟨by simp, ?_⟩
      have h := gr_none HG.out HN10.out
      rw [HLT.out] at h
      exact below_of_gr h
    · go_wp2_with fail
      refine (readPacket_any _ A2 n2 c2 l2 _ ((OwnB.bytes HB.out HL2.out).grown HN.out (fun g e => by cases e)) (by omega)).mono ?_
      rintro e w6 ⟨v6, rfl, hv6, hg6⟩
      replace HP := Lib.hid (HP.out.grown hg6 (by simp))
      have z6 := hg6.size
      replace HN := Lib.hid (gr_none HN.out hg6)
      try replace HW := Lib.hid (Own.kept HW.out hg6 (fun g e => by cases e))
      have HX := Lib.hid (HX.out.grown hg6 (fun g e => by cases e))
      clear hg6
      unfold IsPktErr at hv6
      rw [if_neg hr] at hv6
      subst hv6
      go_wp2_with fail
      refine (packetRead_any _ A2 n2 c2 l2 _ ((OwnB.bytes HB.out HL2.out).grown (by exact gr_alloc HN.out _) (fun g e => by cases e)) (by omega)).mono ?_
      rintro e w7 ⟨v7, rfl, hv7, hg7⟩
      replace HP := Lib.hid ((HP.out.alloc _).grown hg7 (by simp))
      have HQ := Lib.hid ((Blk.new w6 28 _).grown hg7 (by simp))
      have z7 := hg7.size; simp at z7
      replace HN := Lib.hid (gr_none (gr_alloc HN.out _) hg7)
      try replace HW := Lib.hid (Own.kept (Own.alloc HW.out _) hg7 (fun g e => by cases e))
      replace HX := Lib.hid ((HX.out.grown (gr_alloc (gr_refl _ none) _) (fun g e => by cases e)).grown hg7 (fun g e => by cases e))
      clear hg7
      unfold IsPktErr at hv7
      rw [if_neg hr] at hv7
      subst hv7
      clear hr
      go_wp2_with (first
        | (refine wpl_load_all Try.pktT rfl _ rfl _ rfl _ _ (HP.out.alloc _) rfl ?_)
        | fail)
      refine (checkPacket_any ty sq tm sr mk A n c _).mono ?_
      rintro e w8 ⟨rfl, hg8⟩
      have z8 := hg8.size; simp at z8
      replace HP := Lib.hid ((HP.out.alloc _).grown hg8 (by simp))
      replace HQ := Lib.hid ((HQ.out.alloc _).grown hg8 (by simp))
      have HR := Lib.hid ((Blk.new w7 28 _).grown hg8 (by simp))
      replace HN := Lib.hid (gr_none (gr_alloc HN.out _) hg8)
      try replace HW := Lib.hid (Own.kept (Own.alloc HW.out _) hg8 (fun g e => by cases e))
      replace HX := Lib.hid ((HX.out.grown (gr_alloc (gr_refl _ none) _) (fun g e => by cases e)).grown hg8 (fun g e => by cases e))
      clear hg8
      go_wp2_with fail
      have cQ := HQ.out.cell
      have cR := HR.out.cell
      refine (equalB_any _ 0 _ _ _ _ _ _ _ [] _ HX.out.1 Ints.none_ (by omega)).mono ?_
      rintro e w9 ⟨rfl, k9, rfl⟩
      rw [show (([] : List Int) == []) = true from beq_self_eq_true _]
      go_wp2_with fail
      refine (samePacket_same _ _ _ _ _ _ _ _ _ _ _ _ _ _ _ (by first | exact HPQ.out.drewN _ | exact Ints.none_ (lo := 0)) (by first | exact HPR.out.drewN _ | exact Ints.none_ (lo := 0)) (by omega)).mono ?_
      rintro e w10 ⟨rfl, hg10⟩
      have HN10 := Lib.hid (gr_none (gr_drewN HN.out _) hg10); clear hg10
      go_wp2_with (first
        | (go_at_call 19
           refine (sounded_true _).mono ?_
           rintro e w11 ⟨rfl, rfl⟩)
        | fail)
      go_ret
      refine ⟨by simp, ?_⟩
      have h := gr_none HG.out HN10.out
      rw [HLT.out] at h
      exact below_of_gr h

theorem own_PacketsWritten : ownKnob Try.prog.godebug = none := by kernel_rfl
theorem laidOut_PacketsWritten : laidOutB Try.prog = true := by kernel_rfl

set_option maxRecDepth 100000 in
theorem lifted_PacketsWritten (os : Os) (started : os.Started) (H : Type) (enc : TypeId × Value → H) :
    ReturnsInHanded {} Try.checked os 3 .any (Rows.packetsWrittenSpec.pre6 enc Try.prog Try.f3 Rows.packetsWrittenRow.domain false) (Rows.packetsWrittenSpec.post enc Try.prog Try.f3 false true false false) := by
  refine returnsInHanded_of_change (C := Try.checked) own_PacketsWritten started (by kernel_rfl) Try.func3
    (ChangeSpec.witness6 (enc := enc) (C := Try.checked) false ⟨#[], #[.slice none 0 0], []⟩ 8 (by kernel_rfl) (by kernel_rfl) (by kernel_rfl) (by kernel_rfl)) ?_
  intro W base args ds gs before hval0 hW hcnd _
  have hval : ∀ (j : Nat) t v, Try.f3.params[j]? = some t → args[j]? = some v → Value.okWide Try.prog W .any base t v := hval0
  have hW' := hW
  obtain ⟨p, q, hA0, hV, rfl, hfz, hnd⟩ := hW
  have hA : DataW.TrodAll enc Try.prog W 0 (fun _ => true) true Try.f3.params.toList args.toList ds p := hA0
  rw [Try.params3] at hA hval
  obtain ⟨v0, vs0, d0, ds0, p0, q0, hargs, rfl, rfl, h0, r0⟩ := trodAll_cons hA
  obtain ⟨rfl, rfl, rfl⟩ := trodAll_nil r0
  obtain rfl : args = #[v0] := by cases args; simp_all
  obtain ⟨rfl, rfl⟩ := trodVars_none hV
  obtain ⟨a0, len0, cap0, rfl⟩ := okWide_slice Try.underlying22 (hval 0 22 v0 rfl rfl)
  have k0 := h0
  have lt0 : ∀ x ∈ p0, x.block < W.heap.size := by obtain ⟨m, hm⟩ := k0; exact DataW.trod_lt m _ _ _ hm
  obtain ⟨z0, w0⟩ : ∃ zs, IsRow .i64 W a0 len0 cap0 zs := by
    obtain ⟨fuel, hf⟩ := h0
    rcases open_ints Try.underlying22 Try.underlying3 (by kernel_rfl) hf with ⟨hcs, _⟩ | ⟨x, l, c, zs, hcs, _, hl, hm, hz, _, hcell, hwz⟩
    · simp [Value.cells] at hcs
      obtain ⟨rfl, rfl, rfl⟩ := hcs
      exact ⟨[], .inl ⟨rfl, rfl, rfl, rfl⟩⟩
    · simp [Value.cells] at hcs
      obtain ⟨rfl, rfl, rfl⟩ := hcs
      exact ⟨zs, .inr ⟨_, rfl, hl, hm, by simpa using hz, hcell, hwz⟩⟩
  clear hA0 hval0
  refine (walk_PacketsWritten a0 len0 cap0 z0 W w0).mono fun e W' ⟨he, bel⟩ => ?_
  subst he
  exact ⟨_, rfl, _, _, _, [], _, [], hW', trodAll_mk1 (shut_bool Try.underlying4 _), (trodAll_cons_mk (Below.trod laidOut_PacketsWritten (by kernel_rfl) (of_decide_eq_true (by kernel_rfl)) k0 bel lt0) trodAll_mk0), rfl, bel.frame _, fun h => by cases h⟩

theorem over_PacketsWritten : Rows.packetsWrittenRow.holds Try.pinned (OpenSpec.ofChange Rows.packetsWrittenSpec) :=
  OpenClaim.holds_of_wide 3 Try.f3 rfl rfl rfl rfl rfl rfl rfl ⟨rfl, rfl, rfl, rfl, rfl⟩ rfl rfl rfl rfl rfl (by kernel_rfl) Try.func3 (by kernel_rfl)
    (of_decide_eq_true (by kernel_rfl)) (by unfold Func.isWrapper; first | (rw [if_pos (by decide +kernel)]; kernel_rfl) | (rw [if_neg (by decide +kernel)]; exact ⟨rfl, rfl⟩))
    (fun os started H enc _ => lifted_PacketsWritten os started H enc)

theorem proved_PacketsWritten : Rows.PacketsWrittenSaid := over_PacketsWritten

end Go.Proofs.Ytdknfhpconfhkaa

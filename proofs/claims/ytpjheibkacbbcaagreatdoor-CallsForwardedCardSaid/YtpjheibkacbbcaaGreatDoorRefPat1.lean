/- Contract of setText. Conditions: none. -/
import Derived.Test.YtpjheibkacbbcaaGreatDoorPat4
namespace Go.Proofs.YtpjheibkacbbcaaGreatDoor
open Go.RowKit

theorem ext_one {s : ByteArray} {i : Nat} (h : i < s.size) : s.extract i (i + 1) = strN [(nb s).getD i 0] := by
  apply nb_eq
  have hi : i < (nb s).length := by rw [nb_len]; exact h
  rw [nb_extract, List.getD_eq_getElem?_getD, List.getElem?_eq_getElem hi]
  rw [List.take_succ_eq_append_getElem hi, List.drop_append_of_le_length (by rw [List.length_take]; omega)]
  rw [List.drop_eq_nil_of_le (by rw [List.length_take]; omega)]
  rfl
theorem ext_two {s : ByteArray} {i : Nat} (h : i + 1 < s.size) : s.extract i (i + 2) = strN [(nb s).getD i 0, (nb s).getD (i + 1) 0] := by
  apply nb_eq
  have hi : i < (nb s).length := by rw [nb_len]; omega
  have hi1 : i + 1 < (nb s).length := by rw [nb_len]; omega
  rw [nb_extract, List.getD_eq_getElem?_getD, List.getElem?_eq_getElem hi, List.getD_eq_getElem?_getD, List.getElem?_eq_getElem hi1]
  rw [List.take_succ_eq_append_getElem hi1, List.take_succ_eq_append_getElem hi, List.append_assoc, List.drop_append_of_le_length (by rw [List.length_take]; omega)]
  rw [List.drop_eq_nil_of_le (by rw [List.length_take]; omega)]
  rfl
section
variable {set : List Nat} {f i k : Nat} {o : List Nat}
theorem rowE_stop (h : (decide (k + 1 < set.length) && set.getD (k + 1) 0 == set.getD k 0 + 1) = false) : rowE set f k = k := by
  cases f with
  | zero => rfl
  | succ f => rw [rowE, h]; rfl
theorem rowE_go (h : (decide (k + 1 < set.length) && set.getD (k + 1) 0 == set.getD k 0 + 1) = true) : rowE set (f + 1) k = rowE set f (k + 1) := by rw [rowE, if_pos h]
theorem stF_end (h : ¬ i < set.length) : stF set f i o = o := by
  cases f with
  | zero => rfl
  | succ f => rw [stF, if_neg h]
theorem stF_go (h : i < set.length) (hk : rowE set set.length i = k) : stF set (f + 1) i o = stF set f (k + 1) (o ++ pc set i k) := by rw [stF, if_pos h, hk]
end
def StLoop (w : World) (set : List Nat) (v t : Value) (wr : World) : Prop := ∃ (i f : Nat) (o : List Nat), v = .string (strN o) ∧ t = .int .i64 i ∧ i ≤ set.length ∧ set.length - i ≤ f ∧ o.length ≤ 3 * i ∧ stF set f i o = stF set set.length 0 [] ∧ w.grownBy wr none
def StIn (w : World) (set : List Nat) (i : Nat) (u : Value) (wr : World) : Prop := ∃ (k g : Nat), u = .int .i64 k ∧ i ≤ k ∧ k < set.length ∧ set.length - k ≤ g ∧ rowE set g k = rowE set set.length i ∧ w.grownBy wr none

set_option maxRecDepth 100000 in
set_option maxHeartbeats 8000000 in
theorem setText_any (s : ByteArray) (set : List Nat) (w : World) (hs : nb s = set) (hb : ∀ b ∈ set, b ≤ 57) (hn : s.size ≤ 10) :
    Calls Tryz.prog 300 #[.string s] w (RetV (.string (strN (stL set))) w) := by
  have hlen : set.length = s.size := by rw [← hs, nb_len]
  have HS := Lib.hid hs; have HB := Lib.hid hb
  have hap := strN_append
  have hsz := strN_size
  have h45 : (⟨#[45]⟩ : ByteArray) = strN [45] := by decide
  have h91 : (⟨#[91]⟩ : ByteArray) = strN [91] := by decide
  have h93 : (⟨#[93]⟩ : ByteArray) = strN [93] := by decide
  have HLN := Lib.hid hlen
  clear hs hb hlen
  go_enter Tryz.func300, Tryz.ntmps300
  go_wp2_with fail
  go_loopw [3, 4, 5] (fun v t _ wr => StLoop w set v t wr) (fun _ t _ _ => 11 - (intOf t).toNat)
  case atStart => exact ⟨0, set.length, [], rfl, rfl, by omega, by omega, by simp, rfl, gr_refl _ _⟩
  case round =>
    obtain ⟨i, f, o, rfl, rfl, hi, hf, ho, hst, hg⟩ := hrel
    have HST := Lib.hid hst; have HG := Lib.hid hg
    rw [HLN.out] at hi hf
    clear hst hg
    by_cases hlt : i < s.size
    · have d0 : decide ((i : Int) < (s.size : Int)) = true := decide_eq_true (by omega)
      have d0' : decide (i < s.size) = true := decide_eq_true (by omega)
      obtain ⟨f, rfl⟩ : ∃ f', f = f' + 1 := ⟨f - 1, by omega⟩
      obtain ⟨wo, rfl⟩ : ∃ wo : World, wo = wr := ⟨_, rfl⟩
      go_wp2_with fail
      go_loopw [5] (fun u wr2 => StIn wo set i u wr2) (fun u _ => 11 - (intOf u).toNat)
      case atStart => exact ⟨i, set.length, rfl, by omega, by rw [HLN.out]; exact hlt, by omega, rfl, gr_refl _ _⟩
      case round =>
        obtain ⟨k, g, rfl, hik, hkl, hg2, hrow, hgr⟩ := hrel
        have HRW := Lib.hid hrow; have HGR := Lib.hid hgr
        rw [HLN.out] at hkl hg2
        clear hrow hgr
        obtain ⟨a, ha⟩ : ∃ a, s[k].toNat = a := ⟨_, rfl⟩
        have HA := Lib.hid (show set.getD k 0 = a by rw [← HS.out, ← nb_get hkl, ha])
        have a57 : a ≤ 57 := by
          rw [← HA.out]
          have hk' : k < set.length := by rw [HLN.out]; exact hkl
          rw [List.getD_eq_getElem?_getD, List.getElem?_eq_getElem hk']
          exact HB.out _ (List.getElem_mem _)
        by_cases hk1 : k + 1 < s.size
        · obtain ⟨b, hb⟩ : ∃ b, s[k + 1].toNat = b := ⟨_, rfl⟩
          have HBB := Lib.hid (show set.getD (k + 1) 0 = b by rw [← HS.out, ← nb_get hk1, hb])
          have b256 : b < 256 := by rw [← hb]; exact UInt8.toNat_lt _
          have d1 : decide ((k : Int) + 1 < (s.size : Int)) = true := decide_eq_true (by omega)
          have j1 : (0 : Int) ≤ (k : Int) + 1 := by omega
          have j2 : (k : Int) + 1 < (s.size : Int) := by omega
          have j3 : ((k : Int) + 1).toNat = k + 1 := by omega
          have j4 : IntKind.i64.wrap ((k : Int) + 1) = (k : Int) + 1 := IntWalk.i64_in _ (by omega)
          have j5 : (0 : Int) ≤ (k : Int) := by omega
          have j6 : (k : Int) < (s.size : Int) := by omega
          have j7 : IntKind.u8.wrap ((a : Int) + 1) = (a : Int) + 1 := by rw [IntKind.wrap_u8]; omega
          by_cases hab : b = a + 1
          · have q1 : ((b : Int) == (a : Int) + 1) = true := by rw [beq_iff_eq]; omega
            have HGO := Lib.hid (show (decide (k + 1 < set.length) && set.getD (k + 1) 0 == set.getD k 0 + 1) = true by rw [HLN.out, HBB.out, HA.out]; simp [hk1, hab])
            obtain ⟨g, rfl⟩ : ∃ g', g = g' + 1 := ⟨g - 1, by omega⟩
            clear hab
            go_wp2_with fail
            go_quiet (fail)
            go_wp2_with fail
            go_roundw
            case rel => exact ⟨k + 1, g, by go_num, by omega, by rw [HLN.out]; omega, by rw [HLN.out]; omega, by rw [← rowE_go HGO.out]; exact HRW.out, gr_drewN HGR.out _⟩
            case measure => simp [intOf]; omega
          · have q1 : ((b : Int) == (a : Int) + 1) = false := by rw [beq_eq_false_iff_ne]; omega
            have HSTOP := Lib.hid (show (decide (k + 1 < set.length) && set.getD (k + 1) 0 == set.getD k 0 + 1) = false by rw [HLN.out, HBB.out, HA.out]; simp [hab])
            have HK := Lib.hid (show rowE set set.length i = k by rw [← HRW.out, rowE_stop HSTOP.out])
            clear hab
            have HGO2 := Lib.hid (stF_go (set := set) (f := f) (o := o) (show i < set.length by rw [HLN.out]; exact hlt) HK.out)
            have hx1 := ext_one hlt
            rw [HS.out] at hx1
            obtain ⟨x, hx⟩ : ∃ x, set.getD i 0 = x := ⟨_, rfl⟩
            rw [hx] at hx1
            have HX := Lib.hid hx
            clear hx
            have ol : o.length ≤ 30 := by omega
            rcases (by omega : k = i ∨ k = i + 1 ∨ i + 1 < k) with h1 | h1 | h1
            · subst h1
              have HPC := Lib.hid (show pc set k k = [x] by unfold pc; rw [if_pos (by omega), HX.out])
              go_wp2_with fail
              go_quiet (fail)
              go_wp2_with fail
              go_roundw
              case rel => exact ⟨k + 1, f, o ++ [x], rfl, by go_num, by rw [HLN.out]; omega, by rw [HLN.out]; omega, by simp; omega, by rw [← HPC.out, ← HGO2.out]; exact HST.out, gr_drewN (gr_none HG.out HGR.out) _⟩
              case measure => simp [intOf]; omega
            · have hi1 : i + 1 < s.size := by omega
              have hx2 := ext_two hi1
              rw [HS.out, HX.out] at hx2
              obtain ⟨y, hy⟩ : ∃ y, set.getD (i + 1) 0 = y := ⟨_, rfl⟩
              rw [hy] at hx2
              have HPC := Lib.hid (show pc set i k = [x, y] by subst h1; unfold pc; rw [if_neg (by omega), if_pos (by omega), HX.out, hy])
              have hd : (k : Int) - (i : Int) = 1 := by omega
              have l3 : (i : Int) + 2 ≤ (s.size : Int) := by omega
              clear hy h1
              go_wp2_with fail
              go_quiet (fail)
              go_wp2_with fail
              go_roundw
              case rel => exact ⟨k + 1, f, o ++ [x, y], rfl, by go_num, by rw [HLN.out]; omega, by rw [HLN.out]; omega, by simp; omega, by rw [← HPC.out, ← HGO2.out]; exact HST.out, gr_drewN (gr_none HG.out HGR.out) _⟩
              case measure => simp [intOf]; omega
            · have hx2 := ext_one (s := s) (i := k) (by omega)
              rw [HS.out] at hx2
              obtain ⟨y, hy⟩ : ∃ y, set.getD k 0 = y := ⟨_, rfl⟩
              rw [hy] at hx2
              have HPC := Lib.hid (show pc set i k = [x, 45, y] by unfold pc; rw [if_neg (by omega), if_neg (by omega), HX.out, hy])
              clear hy
              obtain ⟨d, hd⟩ : ∃ d : Nat, (k : Int) - (i : Int) = (d : Int) := ⟨k - i, by omega⟩
              have p1 : ((d : Int) == 0) = false := by rw [beq_eq_false_iff_ne]; omega
              have p2 : ((d : Int) == 1) = false := by rw [beq_eq_false_iff_ne]; omega
              have p1' : (d == 0) = false := by rw [beq_eq_false_iff_ne]; omega
              have p2' : (d == 1) = false := by rw [beq_eq_false_iff_ne]; omega
              have l1 : (0 : Int) ≤ (i : Int) := by omega
              have l2 : (i : Int) ≤ (i : Int) + 1 := by omega
              have l3 : (i : Int) + 1 ≤ (s.size : Int) := by omega
              have l4 : IntKind.i64.wrap ((i : Int) + 1) = (i : Int) + 1 := IntWalk.i64_in _ (by omega)
              have l5 : ((i : Int) + 1).toNat = i + 1 := by omega
              have m2 : (k : Int) ≤ (k : Int) + 1 := by omega
              have m3 : (k : Int) + 1 ≤ (s.size : Int) := by omega
              have m5 : ((k : Int) + 1).toNat = k + 1 := by omega
              have o1 : ¬ 9223372036854775807 < o.length + 3 := by omega
              have o2 : ¬ 9223372036854775804 < o.length := by omega
              have o3 : o.length + 3 ≤ 9223372036854775807 := by omega
              have o4 : o.length ≤ 9223372036854775804 := by omega
              go_wp2_with fail
              go_quiet (fail)
              go_wp2_with fail
              go_quiet (fail)
              go_wp2_with fail
              go_roundw
              case rel => exact ⟨k + 1, f, o ++ [x, 45, y], rfl, by go_num, by rw [HLN.out]; omega, by rw [HLN.out]; omega, by simp; omega, by rw [← HPC.out, ← HGO2.out]; exact HST.out, gr_drewN (gr_none HG.out HGR.out) _⟩
              case measure => simp [intOf]; omega
        · have d1 : decide ((k : Int) + 1 < (s.size : Int)) = false := decide_eq_false (by omega)
          have j4 : IntKind.i64.wrap ((k : Int) + 1) = (k : Int) + 1 := IntWalk.i64_in _ (by omega)
          have HSTOP := Lib.hid (show (decide (k + 1 < set.length) && set.getD (k + 1) 0 == set.getD k 0 + 1) = false by rw [HLN.out]; simp [hk1])
          have HK := Lib.hid (show rowE set set.length i = k by rw [← HRW.out, rowE_stop HSTOP.out])
          have HGO2 := Lib.hid (stF_go (set := set) (f := f) (o := o) (show i < set.length by rw [HLN.out]; exact hlt) HK.out)
          have hx1 := ext_one hlt
          rw [HS.out] at hx1
          obtain ⟨x, hx⟩ : ∃ x, set.getD i 0 = x := ⟨_, rfl⟩
          rw [hx] at hx1
          have HX := Lib.hid hx
          clear hx
          have ol : o.length ≤ 30 := by omega
          rcases (by omega : k = i ∨ k = i + 1 ∨ i + 1 < k) with h1 | h1 | h1
          · subst h1
            have HPC := Lib.hid (show pc set k k = [x] by unfold pc; rw [if_pos (by omega), HX.out])
            go_wp2_with fail
            go_quiet (fail)
            go_wp2_with fail
            go_roundw
            case rel => exact ⟨k + 1, f, o ++ [x], rfl, by go_num, by rw [HLN.out]; omega, by rw [HLN.out]; omega, by simp; omega, by rw [← HPC.out, ← HGO2.out]; exact HST.out, gr_drewN (gr_none HG.out HGR.out) _⟩
            case measure => simp [intOf]; omega
          · have hi1 : i + 1 < s.size := by omega
            have hx2 := ext_two hi1
            rw [HS.out, HX.out] at hx2
            obtain ⟨y, hy⟩ : ∃ y, set.getD (i + 1) 0 = y := ⟨_, rfl⟩
            rw [hy] at hx2
            have HPC := Lib.hid (show pc set i k = [x, y] by subst h1; unfold pc; rw [if_neg (by omega), if_pos (by omega), HX.out, hy])
            have hd : (k : Int) - (i : Int) = 1 := by omega
            have l3 : (i : Int) + 2 ≤ (s.size : Int) := by omega
            clear hy h1
            go_wp2_with fail
            go_quiet (fail)
            go_wp2_with fail
            go_roundw
            case rel => exact ⟨k + 1, f, o ++ [x, y], rfl, by go_num, by rw [HLN.out]; omega, by rw [HLN.out]; omega, by simp; omega, by rw [← HPC.out, ← HGO2.out]; exact HST.out, gr_drewN (gr_none HG.out HGR.out) _⟩
            case measure => simp [intOf]; omega
          · have hx2 := ext_one (s := s) (i := k) (by omega)
            rw [HS.out] at hx2
            obtain ⟨y, hy⟩ : ∃ y, set.getD k 0 = y := ⟨_, rfl⟩
            rw [hy] at hx2
            have HPC := Lib.hid (show pc set i k = [x, 45, y] by unfold pc; rw [if_neg (by omega), if_neg (by omega), HX.out, hy])
            clear hy
            obtain ⟨d, hd⟩ : ∃ d : Nat, (k : Int) - (i : Int) = (d : Int) := ⟨k - i, by omega⟩
            have p1 : ((d : Int) == 0) = false := by rw [beq_eq_false_iff_ne]; omega
            have p2 : ((d : Int) == 1) = false := by rw [beq_eq_false_iff_ne]; omega
            have p1' : (d == 0) = false := by rw [beq_eq_false_iff_ne]; omega
            have p2' : (d == 1) = false := by rw [beq_eq_false_iff_ne]; omega
            have l1 : (0 : Int) ≤ (i : Int) := by omega
            have l2 : (i : Int) ≤ (i : Int) + 1 := by omega
            have l3 : (i : Int) + 1 ≤ (s.size : Int) := by omega
            have l4 : IntKind.i64.wrap ((i : Int) + 1) = (i : Int) + 1 := IntWalk.i64_in _ (by omega)
            have l5 : ((i : Int) + 1).toNat = i + 1 := by omega
            have m2 : (k : Int) ≤ (k : Int) + 1 := by omega
            have m3 : (k : Int) + 1 ≤ (s.size : Int) := by omega
            have m5 : ((k : Int) + 1).toNat = k + 1 := by omega
            have o1 : ¬ 9223372036854775807 < o.length + 3 := by omega
            have o2 : ¬ 9223372036854775804 < o.length := by omega
            have o3 : o.length + 3 ≤ 9223372036854775807 := by omega
            have o4 : o.length ≤ 9223372036854775804 := by omega
            go_wp2_with fail
            go_quiet (fail)
            go_wp2_with fail
            go_quiet (fail)
            go_wp2_with fail
            go_roundw
            case rel => exact ⟨k + 1, f, o ++ [x, 45, y], rfl, by go_num, by rw [HLN.out]; omega, by rw [HLN.out]; omega, by simp; omega, by rw [← HPC.out, ← HGO2.out]; exact HST.out, gr_drewN (gr_none HG.out HGR.out) _⟩
            case measure => simp [intOf]; omega
    · obtain rfl : i = s.size := by omega
      have d0 : decide ((s.size : Int) < (s.size : Int)) = false := decide_eq_false (by omega)
      have HE := Lib.hid (show o = stF set set.length 0 [] by rw [← HST.out, stF_end (by rw [HLN.out]; omega)])
      go_wp2_with fail
      go_ret
      exact ⟨by rw [HE.out]; rfl, HG.out⟩
end Go.Proofs.YtpjheibkacbbcaaGreatDoor

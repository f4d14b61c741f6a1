/- Sets of ints: a map[int]bool that a call makes. slices.Max, Min, Contains over ints. Conditions: none. -/
import Derived.Test.YtdknfhpconfhkaaPlay2
import Derived.Test.YtdknfhpconfhkaaSamples2
import Derived.Maps.Own
import Derived.Maps.OwnOps
import Derived.Maps.OwnSet
import Derived.Maps.Views
namespace Go.Proofs.Ytdknfhpconfhkaa
open Go.RowKit Go.Maps

theorem plainElem_bool_inv {P : Program} {e : TypeId} (he : P.underlying e = some .bool) {v : Value} {z : DataW Unit × List MemPlace} (h : plainElem P e v = some z) : ∃ x, v = .bool x ∧ z = (.lit (.bool x), []) := by
  unfold plainElem at h
  rw [he] at h
  cases v <;> simp at h
  exact ⟨_, rfl, h.symm⟩

theorem Try.keyI : Keyed Try.prog 3 := int_keyed Try.underlying3
theorem Try.zeroB (w : World) : (zeroValue 4).run Try.prog w = .ok (.bool false) w := by kernel_rfl

/-- Is a number in a list? -/
def memB (L : List Int) (k : Int) : Bool := List.contains L k
theorem memB_nil (k : Int) : memB [] k = false := rfl
theorem memB_snoc (L : List Int) (x k : Int) : memB (L ++ [x]) k = (memB L k || k == x) := by
  unfold memB; rw [Bool.eq_iff_iff]; simp
/-- The map in block b is the set of the numbers of L; it has s entries. -/
def SetI (w : World) (b n : Nat) (L : List Int) (s : Nat) : Prop :=
  ∃ D : DataW Unit, w.ownsMap Try.prog 3 (plainElem Try.prog 4) b n D ∧ Maps.Tidy D ∧ (∀ k : Int, Maps.has D (.int .i64 k) = memB L k) ∧ (∀ k : Int, memB L k = true → D.atKey (.int .i64 k) (.lit (.bool false)) = .lit (.bool true)) ∧ Maps.size D = s
section
variable {w w' : World} {b n s : Nat} {L : List Int}
theorem SetI.new (w : World) : SetI (w.alloc (.map #[] 0)) w.heap.size 0 [] 0 := ⟨.map [], World.ownsMap_made _ _ _ _, Maps.tidy_empty, fun k => rfl, fun k h => absurd h (by simp [memB]), rfl⟩
theorem SetI.kept {row : Option Nat} (h : SetI w b n L s) (hg : w.grownBy w' row) (hne : some b ≠ row) : SetI w' b n L s := by
  obtain ⟨D, h1, h2⟩ := h
  exact ⟨D, h1.kept hg hne, h2⟩
theorem SetI.look (h : SetI w b n L s) {k : Int} (hw : (Lit.int .i64 k).wf = true) : (Instr.lookup 104 (.map (some b)) (.int .i64 k) false).run Try.prog w = .ok (.bool (memB L k)) w := by
  obtain ⟨D, h1, h2, h3, h4, _⟩ := h
  obtain ⟨v, ps, hrun, hv⟩ := h1.lookup Try.keyI Try.underlying104 (Try.zeroB w) (plainElem_bool Try.underlying4 false) (keyOf_int_mk Try.underlying3 hw)
  obtain ⟨x, rfl, hx⟩ := plainElem_bool_inv Try.underlying4 hv
  simp only [Prod.mk.injEq] at hx
  have hx1 := hx.1
  have e : x = memB L k := by
    cases hc : memB L k
    · have hh : Maps.has D (.int .i64 k) = false := by rw [h3, hc]
      rw [Maps.atKey_of_not_has hh] at hx1
      simp only [DataW.lit.injEq, Lit.bool.injEq] at hx1
      exact Eq.symm hx1
    · rw [h4 k hc] at hx1
      simp only [DataW.lit.injEq, Lit.bool.injEq] at hx1
      exact Eq.symm hx1
  rw [hrun, e]
theorem SetI.put (h : SetI w b n L s) (hn : n < maxLen) {k : Int} (hw : (Lit.int .i64 k).wf = true) : ∃ w', (Instr.mapUpdate 104 (.map (some b)) (.int .i64 k) (.bool true)).run Try.prog w = .ok () w' ∧ SetI w' b (n + 1) (L ++ [k]) (if memB L k then s else s + 1) ∧ w.grownBy w' (some b) := by
  obtain ⟨D, h1, h2, h3, h4, h5⟩ := h
  obtain ⟨w', hrun, ho, hg⟩ := h1.update Try.keyI Try.underlying104 hn (keyOf_int_mk Try.underlying3 hw) (plainElem_bool Try.underlying4 true)
  have hk : WideAt.IsKeyLit (.int .i64 k) := Try.keyI.key (keyOf_int_mk Try.underlying3 hw)
  refine ⟨w', hrun, ⟨_, ho, h2.put hk _, fun k' => ?_, fun k' hc => ?_, ?_⟩, hg⟩
  · by_cases e : k' = k
    · subst e; rw [Maps.has_put_same h2.isMap hk, memB_snoc]; simp
    · rw [Maps.has_put_other (by simpa using e), h3, memB_snoc]
      simp [e]
  · by_cases e : k' = k
    · subst e; rw [Maps.atKey_put_same h2.isMap hk]
    · rw [Maps.atKey_put_other (by simpa using e)]
      refine h4 k' ?_
      rw [memB_snoc] at hc
      simpa [e] using hc
  · rw [Maps.size_put h2, h3, h5]
theorem SetI.len (h : SetI w b n L s) (ty : TypeId) : (Builtin.len_ #[104] ty #[.map (some b)]).run Try.prog w = .ok (.int .i64 s) w := by
  obtain ⟨D, h1, _, _, _, h5⟩ := h
  rw [h1.len Try.underlying104 ty, h5]
end
section
variable {w : World} {ops : Array Oper} {rest : List Oper} {o : Oper} {a : Act} {Q : Exit → Act → World → Prop} {b n s : Nat} {L : List Int}
theorem wpl_setlook (hgd : o.guard = none) (m x : Operand) (hop : o.op = Op.lookup 104 m x false) (hm : a.eval m = .map (some b)) (k : Int) (hx : a.eval x = .int .i64 k) (hw : (Lit.int .i64 k).wf = true) (h : SetI w b n L s)
    (hK : wpList Try.prog ops Q rest (a.put o.dst (.bool (memB L k))) w) : wpList Try.prog ops Q (o :: rest) a w := by
  refine wpList_plain hgd fun K' hK' => ?_
  unfold Oper.wp
  simp [execOp, hop, hm, hx, h.look hw, Result.andThen]
  exact hK' _ _ hK
theorem wpl_setput (hgd : o.guard = none) (m x v : Operand) (hop : o.op = Op.mapUpdate 104 m x v) (hm : a.eval m = .map (some b)) (k : Int) (hx : a.eval x = .int .i64 k) (hv : a.eval v = .bool true) (hw : (Lit.int .i64 k).wf = true) (h : SetI w b n L s) (hn : n < maxLen)
    (hK : ∀ w', SetI w' b (n + 1) (L ++ [k]) (if memB L k then s else s + 1) → w.grownBy w' (some b) → wpList Try.prog ops Q rest (a.put o.dst undef) w') : wpList Try.prog ops Q (o :: rest) a w := by
  refine wpList_plain hgd fun K' hK' => ?_
  obtain ⟨w', hrun, h1, h2⟩ := h.put hn hw
  unfold Oper.wp
  simp [execOp, hop, hm, hx, hv, hrun, Result.andThen]
  exact hK' _ _ (hK w' h1 h2)
theorem wpl_setlen (hgd : o.guard = none) (m : Operand) (hop : o.op = Op.call { callee := Callee.builtin Builtin.len, args := #[m], argTypes := #[104] }) (hm : a.eval m = .map (some b)) (h : SetI w b n L s)
    (hK : wpList Try.prog ops Q rest (a.put o.dst (.int .i64 s)) w) : wpList Try.prog ops Q (o :: rest) a w := by
  refine wpList_plain hgd fun K' hK' => ?_
  unfold Oper.wp
  simp [execOp, hop, resolve, invoke, builtin, hm, h.len o.type, Result.andThen]
  exact hK' _ _ hK
end

/-! slices.Max, Min, Contains. -/
def lmax (l : List Int) : Int := l.foldl max (l.headD 0)
def lmin (l : List Int) : Int := l.foldl min (l.headD 0)
theorem headD_take {l : List Int} {i : Nat} (h : 0 < i) : (l.take i).headD 0 = l.headD 0 := by
  cases l with
  | nil => simp
  | cons x l => cases i with
    | zero => omega
    | succ i => rfl
theorem lmax_succ {l : List Int} {i : Nat} {z : Int} (h : 0 < i) (hz : l[i]? = some z) : lmax (l.take (i + 1)) = max (lmax (l.take i)) z := by
  unfold lmax
  rw [headD_take (by omega), headD_take h, take_snoc' hz, List.foldl_append]; rfl
theorem lmin_succ {l : List Int} {i : Nat} {z : Int} (h : 0 < i) (hz : l[i]? = some z) : lmin (l.take (i + 1)) = min (lmin (l.take i)) z := by
  unfold lmin
  rw [headD_take (by omega), headD_take h, take_snoc' hz, List.foldl_append]; rfl
theorem lmax_one {l : List Int} {z : Int} (hz : l[0]? = some z) : lmax (l.take 1) = z := by
  cases l with
  | nil => simp at hz
  | cons x l => simp at hz; subst hz; simp [lmax]
theorem lmin_one {l : List Int} {z : Int} (hz : l[0]? = some z) : lmin (l.take 1) = z := by
  cases l with
  | nil => simp at hz
  | cons x l => simp at hz; subst hz; simp [lmin]

set_option maxHeartbeats 2000000 in
theorem max_any (lo : Nat) (A : Option Addr) (n c : Nat) (l : List Int) (w : World) (h : Ints .i64 w lo A n c l) (hn : n ≤ 1000000000000) (hp : 0 < n) :
    Calls Try.prog 80 #[.slice A n c] w (Same (.int .i64 (lmax l)) w) := by
  have H := Lib.hid h; clear h
  obtain ⟨g, o, z0, rfl, _, _, hz0, hc0⟩ := H.out.get hp
  have HZ0 := Lib.hid hz0; clear hz0
  simp only [Nat.add_zero] at hc0
  have hb' : decide ((n : Int) < 1) = false := by simp; omega
  have hb2 : decide ((n : Int) ≤ 0) = false := by simp; omega
  go_enter Try.func80, Try.ntmps80
  go_wp2_with fail
  go_loop [3, 4] (fun v t => ∃ (i : Nat) (m : Int), i ≤ n ∧ 0 < i ∧ t = .int .i64 i ∧ v = .int .i64 m ∧ lmax (l.take i) = m) (fun _ t => n - (intOf t).toNat)
  case atStart => exact ⟨1, z0, by omega, by omega, rfl, rfl, lmax_one HZ0.out⟩
  case round =>
    obtain ⟨i, m, hi, hi0, rfl, rfl, hm⟩ := hrel
    have HM := Lib.hid hm; clear hm
    by_cases hlt : i < n
    · obtain ⟨g2, o2, z, hA2, _, _, hz, hc⟩ := H.out.get hlt
      injection hA2 with hA2
      injection hA2 with hA2 hA3
      subst hA2; subst hA3
      have HZ := Lib.hid hz; clear hz
      have j0 : (0 : Int) ≤ (i : Int) := by omega
      have j1 : (i : Int) < (n : Int) := by omega
      by_cases hle : z ≤ m
      · by_cases heq : z = m
        · subst heq
          go_wp2_with fail
          go_round
          case rel => exact ⟨i + 1, z, by omega, by omega, by go_num, by first | rfl | go_num, by rw [lmax_succ hi0 HZ.out, HM.out]; omega⟩
          case measure => simp [intOf]; omega
        · have hlt2 : z < m := by omega
          go_wp2_with fail
          go_round
          case rel => exact ⟨i + 1, _, by omega, by omega, by go_num, rfl, by rw [lmax_succ hi0 HZ.out, HM.out]; omega⟩
          case measure => simp [intOf]; omega
      · have hlt2 : m < z := by omega
        go_wp2_with fail
        go_round
        case rel => exact ⟨i + 1, _, by omega, by omega, by go_num, rfl, by rw [lmax_succ hi0 HZ.out, HM.out]; omega⟩
        case measure => simp [intOf]; omega
    · obtain rfl : i = n := by omega
      go_wp2_with fail
      go_ret
      have h := HM.out
      rw [List.take_of_length_le (by rw [H.out.len]; exact Nat.le_refl _)] at h
      exact ⟨by rw [h]; rfl, rfl⟩
set_option maxHeartbeats 2000000 in
theorem min_any (lo : Nat) (A : Option Addr) (n c : Nat) (l : List Int) (w : World) (h : Ints .i64 w lo A n c l) (hn : n ≤ 1000000000000) (hp : 0 < n) :
    Calls Try.prog 81 #[.slice A n c] w (Same (.int .i64 (lmin l)) w) := by
  have H := Lib.hid h; clear h
  obtain ⟨g, o, z0, rfl, _, _, hz0, hc0⟩ := H.out.get hp
  have HZ0 := Lib.hid hz0; clear hz0
  simp only [Nat.add_zero] at hc0
  have hb' : decide ((n : Int) < 1) = false := by simp; omega
  have hb2 : decide ((n : Int) ≤ 0) = false := by simp; omega
  go_enter Try.func81, Try.ntmps81
  go_wp2_with fail
  go_loop [3, 4] (fun v t => ∃ (i : Nat) (m : Int), i ≤ n ∧ 0 < i ∧ t = .int .i64 i ∧ v = .int .i64 m ∧ lmin (l.take i) = m) (fun _ t => n - (intOf t).toNat)
  case atStart => exact ⟨1, z0, by omega, by omega, rfl, rfl, lmin_one HZ0.out⟩
  case round =>
    obtain ⟨i, m, hi, hi0, rfl, rfl, hm⟩ := hrel
    have HM := Lib.hid hm; clear hm
    by_cases hlt : i < n
    · obtain ⟨g2, o2, z, hA2, _, _, hz, hc⟩ := H.out.get hlt
      injection hA2 with hA2
      injection hA2 with hA2 hA3
      subst hA2; subst hA3
      have HZ := Lib.hid hz; clear hz
      have j0 : (0 : Int) ≤ (i : Int) := by omega
      have j1 : (i : Int) < (n : Int) := by omega
      by_cases hle : z ≤ m
      · by_cases heq : z = m
        · subst heq
          go_wp2_with fail
          go_round
          case rel => exact ⟨i + 1, z, by omega, by omega, by go_num, by first | rfl | go_num, by rw [lmin_succ hi0 HZ.out, HM.out]; omega⟩
          case measure => simp [intOf]; omega
        · have hlt2 : z < m := by omega
          go_wp2_with fail
          go_round
          case rel => exact ⟨i + 1, _, by omega, by omega, by go_num, rfl, by rw [lmin_succ hi0 HZ.out, HM.out]; omega⟩
          case measure => simp [intOf]; omega
      · have hlt2 : m < z := by omega
        go_wp2_with fail
        go_round
        case rel => exact ⟨i + 1, _, by omega, by omega, by go_num, rfl, by rw [lmin_succ hi0 HZ.out, HM.out]; omega⟩
        case measure => simp [intOf]; omega
    · obtain rfl : i = n := by omega
      go_wp2_with fail
      go_ret
      have h := HM.out
      rw [List.take_of_length_le (by rw [H.out.len]; exact Nat.le_refl _)] at h
      exact ⟨by rw [h]; rfl, rfl⟩

set_option maxHeartbeats 2000000 in
theorem indexI_any (lo : Nat) (A : Option Addr) (n c : Nat) (l : List Int) (v : Int) (w : World) (h : Ints .i64 w lo A n c l) (hn : n ≤ 1000000000000) :
    Calls Try.prog 96 #[.slice A n c, .int .i64 v] w (Same (.int .i64 (idxOf (fun x => x == v) l)) w) := by
  have H := Lib.hid h; clear h
  go_enter Try.func96, Try.ntmps96
  go_wp2_with fail
  go_loop [5, 8] (fun _ t => ∃ i : Nat, i ≤ n ∧ t = .int .i64 i ∧ (l.take i).all (fun x => !(x == v)) = true) (fun _ t => n - (intOf t).toNat)
  case atStart => exact ⟨0, Nat.zero_le _, rfl, by simp⟩
  case round =>
    obtain ⟨i, hi, rfl, ha⟩ := hrel
    have HA := Lib.hid ha; clear ha
    by_cases hlt : i < n
    · obtain ⟨g, o, z, rfl, _, _, hz, hc⟩ := H.out.get hlt
      have HZ := Lib.hid hz; clear hz
      have j0 : (0 : Int) ≤ (i : Int) := by omega
      have j1 : (i : Int) < (n : Int) := by omega
      by_cases hp : v = z
      · have hb : (v == z) = true := by simpa using hp
        have HP := Lib.hid hp; clear hp
        go_wp2_with fail
        go_ret
        exact ⟨by rw [idxOf_some (p := fun x => x == v) HA.out HZ.out (by simp [HP.out])]; rfl, rfl⟩
      · have hb : (v == z) = false := by simpa using hp
        have HP := Lib.hid hp; clear hp
        go_wp2_with fail
        go_round
        case rel => exact ⟨i + 1, by omega, by go_num, all_take_succ HA.out HZ.out (by simpa using fun e => HP.out (Eq.symm e))⟩
        case measure => simp [intOf]; omega
    · obtain rfl : i = n := by omega
      go_wp2_with fail
      go_ret
      have h := HA.out
      rw [List.take_of_length_le (by rw [H.out.len]; exact Nat.le_refl _)] at h
      exact ⟨by rw [idxOf_none (p := fun x => x == v) h]; rfl, rfl⟩
set_option maxHeartbeats 2000000 in
theorem containsI_any (lo : Nat) (A : Option Addr) (n c : Nat) (l : List Int) (v : Int) (w : World) (h : Ints .i64 w lo A n c l) (hn : n ≤ 1000000000000) :
    Calls Try.prog 82 #[.slice A n c, .int .i64 v] w (Same (.bool (memB l v)) w) := by
  have H := Lib.hid h; clear h
  have HI := Lib.hid (show decide (0 ≤ idxOf (fun x => x == v) l) = memB l v by unfold memB; rw [idxOf_any, Bool.eq_iff_iff]; simp)
  go_enter Try.func82, Try.ntmps82
  go_wp2_with (first
    | (go_at_call 96; refine (indexI_any lo _ _ _ l v _ H.out hn).mono ?_; rintro e w' ⟨rfl, rfl⟩)
    | fail)
  go_ret
  exact ⟨by rw [← HI.out]; rfl, rfl⟩
end Go.Proofs.Ytdknfhpconfhkaa

/- slices.SortStableFunc and CompactFunc at forwards by the key of tidyForwards: in order, no two neighbours of one key. Conditions: at most 19 forwards, each FwW. -/
import Derived.Test.YtfakdalpaopjaaaGreatDoorCfS
import Derived.Test.YtfakdalpaopjaaaGreatDoorBun5
namespace Go.Proofs.YtfakdalpaopjaaaGreatDoor
open Go.Shelf Go.RowKit Go.Lib Go.Sort

def tkCmp (a b : FwV) : Int := cmpS (tkS a) (tkS b)
theorem swoTk : SWO (ltOf tkCmp) where
  irrefl x := by
    unfold ltOf
    rw [decide_eq_false_iff_not]
    have : cmpS (tkS x) (tkS x) = 0 := cmpS_zero.2 rfl
    unfold tkCmp; omega
  trans x y z h1 h2 := by
    unfold ltOf at *
    rw [decide_eq_true_eq] at *
    exact cmpS_trans h1 h2
  ntrans x y z h1 h2 := by
    unfold ltOf at *
    rw [decide_eq_false_iff_not] at *
    unfold tkCmp at *
    intro h3
    have n1 := cmpS_neg (tkS x) (tkS y)
    have n2 := cmpS_neg (tkS y) (tkS z)
    by_cases e1 : cmpS (tkS x) (tkS y) = 0
    · have e2 : cmpS (tkS x) (tkS z) = cmpS (tkS y) (tkS z) := by
        have q := cmpS_zero.1 e1
        unfold cmpS
        rw [nb_inj q]
      omega
    · have := cmpS_trans h3 (show cmpS (tkS z) (tkS y) < 0 ∨ cmpS (tkS z) (tkS y) = 0 by omega |>.elim id fun h => by
        exfalso
        have q := cmpS_zero.1 h
        have : cmpS (tkS x) (tkS z) = cmpS (tkS x) (tkS y) := cmpS_eqr q
        omega)
      omega
/-- The first k: no two neighbours of one key. -/
def NoTk (l : List FwV) (k : Nat) : Prop := ∀ (p : Nat) (x y : FwV), p + 1 < k → l[p]? = some x → l[p + 1]? = some y → nb (tkS x) ≠ nb (tkS y)
theorem NoTk.one {l : List FwV} : NoTk l 1 := fun p x y h => by omega
theorem NoTk.short {l : List FwV} (h : l.length ≤ 1) : NoTk l l.length := fun p x y h1 => by omega
theorem tk_ne {a b : FwV} (h : ((tkS a).toList == (tkS b).toList) = false) : nb (tkS b) ≠ nb (tkS a) := by
  intro e
  rw [nb_inj e] at h
  simp at h
theorem tk_eq {a b : FwV} (h : ((tkS a).toList == (tkS b).toList) = true) : nb (tkS b) = nb (tkS a) := by
  rw [beq_iff_eq, ByteArray.toList_eq, ByteArray.toList_eq] at h
  unfold nb
  rw [h]
theorem NoTk.succ {l : List FwV} {k : Nat} {x y : FwV} (h : NoTk l k) (hk : 0 < k) (hx : l[k]? = some x) (hy : l[k - 1]? = some y) (hn : nb (tkS y) ≠ nb (tkS x)) : NoTk l (k + 1) := by
  intro p u v hp hu hv
  by_cases e : p + 1 = k
  · subst e
    rw [hx] at hv
    rw [Nat.add_sub_cancel, hu] at hy
    obtain rfl := Option.some.inj hv
    obtain rfl := Option.some.inj hy
    exact hn
  · exact h p u v (by omega) hu hv
/-- The first m of l have been looked at; j of them stand in l' and no two neighbours among these have one key. -/
structure CmTk (l l' : List FwV) (j m : Nat) : Prop where
  sub : (l'.take j).Sublist (l.take m)
  no : NoTk l' j
  last : ∃ x y, 0 < j ∧ l'[j - 1]? = some x ∧ l[m - 1]? = some y ∧ nb (tkS x) = nb (tkS y)
  rest : ∀ p, m ≤ p + 1 → l'[p]? = l[p]?
theorem CmTk.begin_ {l : List FwV} {k : Nat} {x y : FwV} (h : NoTk l k) (hk : 0 < k) (hx : l[k]? = some x) (hy : l[k - 1]? = some y) (he : nb (tkS y) = nb (tkS x)) : CmTk l l k (k + 1) :=
  ⟨List.take_sublist_take_left (Nat.le_succ k), h, ⟨y, x, hk, hy, by rw [Nat.add_sub_cancel]; exact hx, he⟩, fun _ _ => rfl⟩
theorem CmTk.skip_ {l l' : List FwV} {j m : Nat} {x y : FwV} (h : CmTk l l' j m) (hx : l[m]? = some x) (hy : l[m - 1]? = some y) (he : nb (tkS y) = nb (tkS x)) : CmTk l l' j (m + 1) := by
  obtain ⟨u, v, h0, h1, h2, h3⟩ := h.last
  rw [hy] at h2
  obtain rfl := Option.some.inj h2
  exact ⟨h.sub.trans (List.take_sublist_take_left (Nat.le_succ m)), h.no, ⟨u, x, h0, h1, by rw [Nat.add_sub_cancel]; exact hx, h3.trans he⟩, fun p hp => h.rest p (by omega)⟩
theorem CmTk.put {l l' : List FwV} {j m : Nat} {x y : FwV} (h : CmTk l l' j m) (h1 : 1 ≤ m) (hjm : j < m) (hl : j < l'.length) (hx : l[m]? = some x) (hy : l[m - 1]? = some y) (hn : nb (tkS y) ≠ nb (tkS x)) : CmTk l (l'.set j x) (j + 1) (m + 1) := by
  obtain ⟨u, v, h0, q1, q2, q3⟩ := h.last
  rw [hy] at q2
  obtain rfl := Option.some.inj q2
  have e1 : (l'.set j x).take (j + 1) = l'.take j ++ [x] := by
    rw [List.take_succ_eq_append_getElem (by rw [List.length_set]; exact hl), List.getElem_set_self, List.take_set_of_le (Nat.le_refl _)]
  have e2 : l.take (m + 1) = l.take m ++ [x] := by
    obtain ⟨a, b⟩ := List.getElem?_eq_some_iff.1 hx
    rw [List.take_succ_eq_append_getElem a, b]
  refine ⟨?_, fun p a b hp ha hb => ?_, ⟨x, x, by omega, ?_, by rw [Nat.add_sub_cancel]; exact hx, rfl⟩, fun p hp => ?_⟩
  · rw [e1, e2]; exact h.sub.append (List.Sublist.refl _)
  · rw [List.getElem?_set_ne (by omega)] at ha
    by_cases e : p + 1 = j
    · subst e
      rw [List.getElem?_set_self hl] at hb
      rw [Nat.add_sub_cancel, ha] at q1
      obtain rfl := Option.some.inj hb
      obtain rfl := Option.some.inj q1
      rw [q3]; exact hn
    · rw [List.getElem?_set_ne (by omega)] at hb
      exact h.no p a b (by omega) ha hb
  · rw [Nat.add_sub_cancel, List.getElem?_set_self hl]
  · rw [List.getElem?_set_ne (by omega)]; exact h.rest p (by omega)
theorem CmTk.done {l l' : List FwV} {j m : Nat} (h : CmTk l l' j m) (hm : l.length ≤ m) : (l'.take j).Sublist l ∧ NoTk (l'.take j) (l'.take j).length := by
  have hs := h.sub
  rw [List.take_of_length_le hm] at hs
  refine ⟨hs, fun p x y hp hx hy => ?_⟩
  rw [List.length_take] at hp
  rw [List.getElem?_take_of_lt (by omega)] at hx hy
  exact h.no p x y (by omega) hx hy
def SortedFR (A : Option Addr) (n c lo : Nat) (l : List FwV) (w : World) (e : Ending) (w' : World) : Prop := e = .returned (.tuple #[]) ∧ ∃ l', OwnFw w' lo A n c l' ∧ w.grownBy w' (blkOf A) ∧ (l'.Perm l ∧ Asc tkCmp l')
set_option maxHeartbeats 8000000 in
set_option maxRecDepth 100000 in
theorem insSortFR_any (lo : Nat) (A : Option Addr) (n c : Nat) (l : List FwV) (w : World) (h : OwnFw w lo A n c l) (hn : n ≤ 100) (tb : Nat) (hkt : Blk w tb 160 #[.func (.func 72) #[] #[]]) (htn : ∀ g, blkOf A = some g → g ≠ tb) :
    Calls Tryz.prog 138 #[.slice A n c, .int .i64 0, .int .i64 n, .func (.func 74) #[] #[.pointer (some ⟨tb, 0, none⟩)]] w (SortedFR A n c lo l w) := by
  have H := Lib.hid h; have HKT := Lib.hid hkt; have HTN := Lib.hid htn; clear h hkt htn
  go_enter Tryz.func138, Tryz.ntmps138
  go_wp2_with fail
  go_loopw [8, 9] (fun t _ wr => ∃ (i : Nat) (l' : List FwV), t = .int .i64 i ∧ 1 ≤ i ∧ i ≤ n + 1 ∧ OwnFw wr lo A n c l' ∧ w.grownBy wr (blkOf A) ∧ (l'.Perm l ∧ SrtTo tkCmp l' i)) (fun t _ _ => n + 1 - (intOf t).toNat)
  case atStart => exact ⟨1, l, rfl, Nat.le_refl _, by omega, H.out, gr_refl _ _, .refl _, SrtTo.one⟩
  case round =>
    obtain ⟨i, l1, rfl, hi, hi2, hown, hg, hps⟩ := hrel
    have HO := Lib.hid hown; have HG := Lib.hid hg; have HPS := Lib.hid hps; clear hown hg hps
    by_cases hlt : i < n
    · obtain ⟨g, rfl, _, _⟩ := H.out.1.1.pos (by omega)
      have hl0 : (i : Int) < (n : Int) := by omega
      go_wp2_with fail
      go_loopw [9] (fun t wr => ∃ (j : Nat) (l' : List FwV), t = .int .i64 j ∧ j ≤ i ∧ OwnFw wr lo (some ⟨g, 0, none⟩) n c l' ∧ w.grownBy wr (some g) ∧ (l'.Perm l ∧ Hole tkCmp l' i j)) (fun t _ => (intOf t).toNat)
      case atStart => exact ⟨i, l1, rfl, Nat.le_refl _, HO.out, HG.out, HPS.out.1, HPS.out.2.hole⟩
      case round =>
        clear HO HG HPS
        obtain ⟨j, l2, rfl, hj, hown, hg, hps⟩ := hrel
        have HPS := Lib.hid hps; clear hps
        have HO := Lib.hid hown.1; have HK := Lib.hid hown.2; have HG := Lib.hid hg; clear hown hg
        have hHeld : wr.grownBy wr.drew none := gr_drew (gr_refl _ _)
        by_cases h0 : 0 < j
        · obtain ⟨q, rfl⟩ : ∃ q, j = q + 1 := ⟨j - 1, by omega⟩
          obtain ⟨⟨ln1, wh1, too1, hr1⟩, hx⟩ : ∃ b, l2[q + 1]? = some b := ⟨_, List.getElem?_eq_getElem (by rw [HO.out.2]; omega)⟩
          obtain ⟨⟨ln2, wh2, too2, hr2⟩, hy⟩ : ∃ b, l2[q]? = some b := ⟨_, List.getElem?_eq_getElem (by rw [HO.out.2]; omega)⟩
          have HX := Lib.hid hx; have HY := Lib.hid hy; clear hx hy
          have HCX := Lib.hid (HO.out.recs.at_ FwV.row_len HX.out)
          have HCY := Lib.hid (HO.out.recs.at_ FwV.row_len HY.out)
          have hi0 : decide ((0 : Int) < ((q + 1 : Nat) : Int)) = true := decide_eq_true (by omega)
          have hi1 : decide ((0 : Int) < (q : Int) + 1) = true := decide_eq_true (by omega)
          have q1 : IntKind.i64.wrap (q : Int) = (q : Int) := IntWalk.i64_in _ (by omega)
          have q2 : (0 : Int) ≤ (q : Int) + 1 := by omega
          have q3 : (q : Int) + 1 < (n : Int) := by omega
          have q4 : ((q : Int) + 1).toNat = q + 1 := by omega
          have q5 : (0 : Int) ≤ (q : Int) := by omega
          have q6 : (q : Int) < (n : Int) := by omega
          go_wp2_with fail
          refine H_begin (fun w' => wr.grownBy w' none) (by kernel_rfl) ?_
          refine H_take (k := 0) (v := ?_) (by rfl) (by kernel_rfl) (by kernel_rfl) (by kernel_rfl) (by exact fun _ _ _ h => h) (by rfl) ?_ (by assumption) ?_
          rotate_left 1
          · intro w hSw
            (try dsimp only at hSw)
            go_simp
            (try with_reducible rfl)
          (try simp only [Act.put, List.setIfInBounds_toArray, List.set_cons_zero, List.set_cons_succ])
          refine H_take (k := 1) (v := ?_) (by rfl) (by kernel_rfl) (by kernel_rfl) (by kernel_rfl) (by exact fun _ _ _ h => h) (by rfl) ?_ (by assumption) ?_
          rotate_left 1
          · intro w hSw
            (try dsimp only at hSw)
            go_simp
            (try with_reducible rfl)
          (try simp only [Act.put, List.setIfInBounds_toArray, List.set_cons_zero, List.set_cons_succ])
          refine H_take (k := 2) (v := ?_) (by rfl) (by kernel_rfl) (by kernel_rfl) (by kernel_rfl) (by exact fun _ _ _ h => h) (by rfl) ?_ (by assumption) ?_
          rotate_left 1
          · intro w hSw
            (try dsimp only at hSw)
            go_simp
            (try with_reducible rfl)
          (try simp only [Act.put, List.setIfInBounds_toArray, List.set_cons_zero, List.set_cons_succ])
          refine H_take (k := 3) (v := ?_) (by rfl) (by kernel_rfl) (by kernel_rfl) (by kernel_rfl) (by exact fun _ _ _ h => h) (by rfl) ?_ (by assumption) ?_
          rotate_left 1
          · intro w hSw
            (try dsimp only at hSw)
            go_simp
            (try with_reducible rfl)
          (try simp only [Act.put, List.setIfInBounds_toArray, List.set_cons_zero, List.set_cons_succ])
          refine H_take (k := 4) (v := ?_) (by rfl) (by kernel_rfl) (by kernel_rfl) (by kernel_rfl) (by exact fun _ _ _ h => h) (by rfl) ?_ (by assumption) ?_
          rotate_left 1
          · intro w hSw
            (try dsimp only at hSw)
            go_simp
            (try with_reducible rfl)
          (try simp only [Act.put, List.setIfInBounds_toArray, List.set_cons_zero, List.set_cons_succ])
          refine H_take (k := 5) (v := ?_) (by rfl) (by kernel_rfl) (by kernel_rfl) (by kernel_rfl) (by exact fun _ _ _ h => h) (by rfl) ?_ (by assumption) ?_
          rotate_left 1
          · intro w hSw
            (try dsimp only at hSw)
            go_simp
            (try with_reducible rfl)
          (try simp only [Act.put, List.setIfInBounds_toArray, List.set_cons_zero, List.set_cons_succ])
          refine H_take (k := 6) (v := ?_) (by rfl) (by kernel_rfl) (by kernel_rfl) (by kernel_rfl) (by exact fun _ _ _ h => h) (by rfl) ?_ (by assumption) ?_
          rotate_left 1
          · intro w hSw
            (try dsimp only at hSw)
            go_simp
            (try with_reducible rfl)
          (try simp only [Act.put, List.setIfInBounds_toArray, List.set_cons_zero, List.set_cons_succ])
          refine H_take (k := 7) (v := ?_) (by rfl) (by kernel_rfl) (by kernel_rfl) (by kernel_rfl) (by exact fun _ _ _ h => h) (by rfl) ?_ (by assumption) ?_
          rotate_left 1
          · intro w hSw
            (try dsimp only at hSw)
            go_simp
            (try with_reducible rfl)
          (try simp only [Act.put, List.setIfInBounds_toArray, List.set_cons_zero, List.set_cons_succ])
          refine H_take (k := 8) (v := .agg #[.string ln1, .int .i64 wh1, .string too1, .string hr1]) (by rfl) (by kernel_rfl) (by kernel_rfl) (by kernel_rfl) (by exact fun _ _ _ h => h) (by rfl) (fun w' hSw => exec_ldf Tryz.fwT _ rfl _ rfl [.string ln1, .int .i64 wh1, .string too1, .string hr1] rfl (fun j u hu => by rw [add_mk]; exact (by simpa using ((HO.out.recs.grown hSw (fun g e => by cases e)).at_ FwV.row_len HX.out) j u hu))) (by assumption) ?_
          (try simp only [Act.put, List.setIfInBounds_toArray, List.set_cons_zero, List.set_cons_succ])
          refine H_take (k := 9) (v := ?_) (by rfl) (by kernel_rfl) (by kernel_rfl) (by kernel_rfl) (by exact fun _ _ _ h => h) (by rfl) ?_ (by assumption) ?_
          rotate_left 1
          · intro w hSw
            (try dsimp only at hSw)
            go_simp
            (try with_reducible rfl)
          (try simp only [Act.put, List.setIfInBounds_toArray, List.set_cons_zero, List.set_cons_succ])
          refine H_take (k := 10) (v := ?_) (by rfl) (by kernel_rfl) (by kernel_rfl) (by kernel_rfl) (by exact fun _ _ _ h => h) (by rfl) ?_ (by assumption) ?_
          rotate_left 1
          · intro w hSw
            (try dsimp only at hSw)
            go_simp
            (try with_reducible rfl)
          (try simp only [Act.put, List.setIfInBounds_toArray, List.set_cons_zero, List.set_cons_succ])
          refine H_take (k := 11) (v := ?_) (by rfl) (by kernel_rfl) (by kernel_rfl) (by kernel_rfl) (by exact fun _ _ _ h => h) (by rfl) ?_ (by assumption) ?_
          rotate_left 1
          · intro w hSw
            (try dsimp only at hSw)
            go_simp
            (try with_reducible rfl)
          (try simp only [Act.put, List.setIfInBounds_toArray, List.set_cons_zero, List.set_cons_succ])
          refine H_take (k := 12) (v := ?_) (by rfl) (by kernel_rfl) (by kernel_rfl) (by kernel_rfl) (by exact fun _ _ _ h => h) (by rfl) ?_ (by assumption) ?_
          rotate_left 1
          · intro w hSw
            (try dsimp only at hSw)
            go_simp
            (try with_reducible rfl)
          (try simp only [Act.put, List.setIfInBounds_toArray, List.set_cons_zero, List.set_cons_succ])
          refine H_take (k := 13) (v := .agg #[.string ln2, .int .i64 wh2, .string too2, .string hr2]) (by rfl) (by kernel_rfl) (by kernel_rfl) (by kernel_rfl) (by exact fun _ _ _ h => h) (by rfl) (fun w' hSw => exec_ldf Tryz.fwT _ rfl _ rfl [.string ln2, .int .i64 wh2, .string too2, .string hr2] rfl (fun j u hu => by rw [add_mk]; exact (by simpa using ((HO.out.recs.grown hSw (fun g e => by cases e)).at_ FwV.row_len HY.out) j u hu))) (by assumption) ?_
          (try simp only [Act.put, List.setIfInBounds_toArray, List.set_cons_zero, List.set_cons_succ])
          refine H_run (k := 14) (by rfl) (by kernel_rfl) (by rfl) (fun K hK => ?_)
          go_simp
          refine (tidyCmp_any ⟨ln1, wh1, too1, hr1⟩ ⟨ln2, wh2, too2, hr2⟩ tb _ ((HKT.out.grown HG.out (fun e => HTN.out g rfl (by injection e with e; exact e.symm))).grown hHeld (by simp)) (HK.out _ (mem_of_get HX.out)) (HK.out _ (mem_of_get HY.out))).mono ?_
          rintro e w6 ⟨rfl, hg6⟩
          obtain ⟨Z, hZ⟩ : ∃ Z, cmpS (tkS ⟨ln1, wh1, too1, hr1⟩) (tkS ⟨ln2, wh2, too2, hr2⟩) = Z := ⟨_, rfl⟩
          rw [hZ]
          have HZ := Lib.hid (show tkCmp ⟨ln1, wh1, too1, hr1⟩ ⟨ln2, wh2, too2, hr2⟩ = Z from hZ)
          clear hZ
          go_simp
          have hgz : wr.grownBy w6 none := gr_none (gr_drew (gr_refl wr none)) hg6
          refine hK _ _ hgz ?_
          clear hK K hHeld hg6
          have hHeld := hgz
          obtain ⟨ZB, hZB⟩ : ∃ ZB, decide (Z < 0) = ZB := ⟨_, rfl⟩
          refine H_take (k := 15) (v := ?_) (by rfl) (by kernel_rfl) (by kernel_rfl) (by kernel_rfl) (by exact fun _ _ _ h => h) (by rfl) ?_ (by assumption) ?_
          rotate_left 1
          · intro w hSw
            (try dsimp only at hSw)
            go_simp
            (try with_reducible rfl)
          (try simp only [Act.put, List.setIfInBounds_toArray, List.set_cons_zero, List.set_cons_succ])
          refine H_take (k := 16) (v := ?_) (by rfl) (by kernel_rfl) (by kernel_rfl) (by kernel_rfl) (by exact fun _ _ _ h => h) (by rfl) ?_ (by assumption) ?_
          rotate_left 1
          · intro w hSw
            (try dsimp only at hSw)
            go_simp
            (try with_reducible rfl)
          (try simp only [Act.put, List.setIfInBounds_toArray, List.set_cons_zero, List.set_cons_succ])
          refine H_done (by kernel_rfl) ?_
          clear hi0 hi1 hHeld
          have HO6 := Lib.hid (HO.out.kept hgz (fun g e => by cases e))
          have HG6 := Lib.hid (gr_none HG.out hgz)
          have HZB := Lib.hid hZB
          clear hgz hZB
          cases ZB
          · clear q1 q2 q3 q4 q5 q6
            go_wp2_with fail
            go_roundw
            case rel => exact ⟨i + 1, l2, by go_num, by omega, by omega, ⟨HO6.out, HK.out⟩, HG6.out, HPS.out.1, Hole.done swoTk HPS.out.2 HX.out HY.out hj (by rw [HZ.out]; exact of_decide_eq_false HZB.out)⟩
            case measure => simp [intOf]; omega
          · have HCX2 := Lib.hid (HO6.out.recs.at_ FwV.row_len HX.out)
            go_wp2_with fail
            refine wp_region_B (fun w' => w6.grownBy w' none) 15 (by kernel_rfl) ?_
            have hHeld : w6.grownBy w6.drew none := gr_drew (gr_refl _ _)
            refine B_take (k := 0) false (v := ?_) (by rfl) (by kernel_rfl) (by exact fun _ _ _ h => h) (by rfl) ?_ (by first | exact .inr hHeld | exact .inl (by rfl)) ?_
            rotate_left 1
            · intro w hSw
              clear hSw
              go_simp
              (try with_reducible rfl)
            (try simp only [Act.put, List.setIfInBounds_toArray, List.set_cons_zero, List.set_cons_succ])
            refine B_take (k := 1) false (v := ?_) (by rfl) (by kernel_rfl) (by exact fun _ _ _ h => h) (by rfl) ?_ (by first | exact .inr hHeld | exact .inl (by rfl)) ?_
            rotate_left 1
            · intro w hSw
              clear hSw
              go_simp
              (try with_reducible rfl)
            (try simp only [Act.put, List.setIfInBounds_toArray, List.set_cons_zero, List.set_cons_succ])
            refine B_take (k := 2) false (v := ?_) (by rfl) (by kernel_rfl) (by exact fun _ _ _ h => h) (by rfl) ?_ (by first | exact .inr hHeld | exact .inl (by rfl)) ?_
            rotate_left 1
            · intro w hSw
              clear hSw
              go_simp
              (try with_reducible rfl)
            (try simp only [Act.put, List.setIfInBounds_toArray, List.set_cons_zero, List.set_cons_succ])
            refine B_take (k := 3) false (v := ?_) (by rfl) (by kernel_rfl) (by exact fun _ _ _ h => h) (by rfl) ?_ (by first | exact .inr hHeld | exact .inl (by rfl)) ?_
            rotate_left 1
            · intro w hSw
              clear hSw
              go_simp
              (try with_reducible rfl)
            (try simp only [Act.put, List.setIfInBounds_toArray, List.set_cons_zero, List.set_cons_succ])
            refine B_take (k := 4) false (v := ?_) (by rfl) (by kernel_rfl) (by exact fun _ _ _ h => h) (by rfl) ?_ (by first | exact .inr hHeld | exact .inl (by rfl)) ?_
            rotate_left 1
            · intro w hSw
              clear hSw
              go_simp
              (try with_reducible rfl)
            (try simp only [Act.put, List.setIfInBounds_toArray, List.set_cons_zero, List.set_cons_succ])
            refine B_take (k := 5) false (v := ?_) (by rfl) (by kernel_rfl) (by exact fun _ _ _ h => h) (by rfl) ?_ (by first | exact .inr hHeld | exact .inl (by rfl)) ?_
            rotate_left 1
            · intro w hSw
              clear hSw
              go_simp
              (try with_reducible rfl)
            (try simp only [Act.put, List.setIfInBounds_toArray, List.set_cons_zero, List.set_cons_succ])
            refine B_take (k := 6) false (v := ?_) (by rfl) (by kernel_rfl) (by exact fun _ _ _ h => h) (by rfl) ?_ (by first | exact .inr hHeld | exact .inl (by rfl)) ?_
            rotate_left 1
            · intro w hSw
              clear hSw
              go_simp
              (try with_reducible rfl)
            (try simp only [Act.put, List.setIfInBounds_toArray, List.set_cons_zero, List.set_cons_succ])
            refine B_take (k := 7) false (v := ?_) (by rfl) (by kernel_rfl) (by exact fun _ _ _ h => h) (by rfl) ?_ (by first | exact .inr hHeld | exact .inl (by rfl)) ?_
            rotate_left 1
            · intro w hSw
              clear hSw
              go_simp
              (try with_reducible rfl)
            (try simp only [Act.put, List.setIfInBounds_toArray, List.set_cons_zero, List.set_cons_succ])
            refine B_take (k := 8) false (v := ?_) (by rfl) (by kernel_rfl) (by exact fun _ _ _ h => h) (by rfl) ?_ (by first | exact .inr hHeld | exact .inl (by rfl)) ?_
            rotate_left 1
            · intro w hSw
              clear hSw
              go_simp
              (try with_reducible rfl)
            (try simp only [Act.put, List.setIfInBounds_toArray, List.set_cons_zero, List.set_cons_succ])
            refine B_take (k := 9) true (v := .agg #[.string ln2, .int .i64 wh2, .string too2, .string hr2]) (by rfl) (by kernel_rfl) (by exact fun _ _ _ h => h) (by rfl) (fun w' hSw => exec_ldf Tryz.fwT _ rfl _ rfl [.string ln2, .int .i64 wh2, .string too2, .string hr2] rfl (fun j u hu => by rw [add_mk]; exact (by simpa using ((HO6.out.recs.grown hSw (fun g e => by cases e)).at_ FwV.row_len HY.out) j u hu))) (.inr hHeld) ?_
            (try simp only [Act.put, List.setIfInBounds_toArray, List.set_cons_zero, List.set_cons_succ])
            refine B_take (k := 10) false (v := ?_) (by rfl) (by kernel_rfl) (by exact fun _ _ _ h => h) (by rfl) ?_ (by first | exact .inr hHeld | exact .inl (by rfl)) ?_
            rotate_left 1
            · intro w hSw
              clear hSw
              go_simp
              (try with_reducible rfl)
            (try simp only [Act.put, List.setIfInBounds_toArray, List.set_cons_zero, List.set_cons_succ])
            refine B_take (k := 11) false (v := ?_) (by rfl) (by kernel_rfl) (by exact fun _ _ _ h => h) (by rfl) ?_ (by first | exact .inr hHeld | exact .inl (by rfl)) ?_
            rotate_left 1
            · intro w hSw
              clear hSw
              go_simp
              (try with_reducible rfl)
            (try simp only [Act.put, List.setIfInBounds_toArray, List.set_cons_zero, List.set_cons_succ])
            refine B_take (k := 12) false (v := ?_) (by rfl) (by kernel_rfl) (by exact fun _ _ _ h => h) (by rfl) ?_ (by first | exact .inr hHeld | exact .inl (by rfl)) ?_
            rotate_left 1
            · intro w hSw
              clear hSw
              go_simp
              (try with_reducible rfl)
            (try simp only [Act.put, List.setIfInBounds_toArray, List.set_cons_zero, List.set_cons_succ])
            refine B_take (k := 13) true (v := .agg #[.string ln1, .int .i64 wh1, .string too1, .string hr1]) (by rfl) (by kernel_rfl) (by exact fun _ _ _ h => h) (by rfl) (fun w' hSw => exec_ldf Tryz.fwT _ rfl _ rfl [.string ln1, .int .i64 wh1, .string too1, .string hr1] rfl (fun j u hu => by rw [add_mk]; exact (by simpa using ((HO6.out.recs.grown hSw (fun g e => by cases e)).at_ FwV.row_len HX.out) j u hu))) (.inr hHeld) ?_
            (try simp only [Act.put, List.setIfInBounds_toArray, List.set_cons_zero, List.set_cons_succ])
            refine B_take (k := 14) false (v := ?_) (by rfl) (by kernel_rfl) (by exact fun _ _ _ h => h) (by rfl) ?_ (by first | exact .inr hHeld | exact .inl (by rfl)) ?_
            rotate_left 1
            · intro w hSw
              clear hSw
              go_simp
              (try with_reducible rfl)
            (try simp only [Act.put, List.setIfInBounds_toArray, List.set_cons_zero, List.set_cons_succ])
            refine B_run (k := 15) (by rfl) (by kernel_rfl) (by rfl) (fun K hK => ?_)
            refine wp_store_rec (row := FwV.row) Tryz.fwT FwV.row_len (by decide) _ _ rfl (q + 1) _ rfl rfl ⟨ln2, wh2, too2, hr2⟩ rfl (HO6.out.kept (gr_drew (gr_refl _ none)) (fun g e => by cases e)) (by omega) (FwV.one _) ?_
            intro w7 hown7 hg7
            refine hK _ _ (.inl (by rfl)) ?_
            clear hK K hHeld
            (try simp only [Act.put, List.setIfInBounds_toArray, List.set_cons_zero, List.set_cons_succ])
            refine B_take (k := 16) false (v := ?_) (by rfl) (by kernel_rfl) (by exact fun _ _ _ h => h) (by rfl) ?_ (by first | exact .inr hHeld | exact .inl (by rfl)) ?_
            rotate_left 1
            · intro w hSw
              clear hSw
              go_simp
              (try with_reducible rfl)
            (try simp only [Act.put, List.setIfInBounds_toArray, List.set_cons_zero, List.set_cons_succ])
            refine B_run (k := 17) (by rfl) (by kernel_rfl) (by rfl) (fun K hK => ?_)
            refine wp_store_rec (row := FwV.row) Tryz.fwT FwV.row_len (by decide) _ _ rfl q _ rfl rfl ⟨ln1, wh1, too1, hr1⟩ rfl hown7 (by omega) (FwV.one _) ?_
            intro w8 hown8 hg8
            refine hK _ _ (.inl (by rfl)) ?_
            clear hK K
            (try simp only [Act.put, List.setIfInBounds_toArray, List.set_cons_zero, List.set_cons_succ])
            refine B_done (by kernel_rfl) ?_
            have HO8 := Lib.hid hown8
            have HG8 := Lib.hid (gr_same HG6.out (gr_same (gr_same (gr_drew (gr_refl w6 _)) hg7) hg8))
            clear hown7 hg7 hown8 hg8 q1 q2 q3 q4 q5 q6
            go_simp
            go_wp2_with fail
            go_roundw
            case rel => exact ⟨q, _, by go_num, by omega, ⟨HO8.out, OwnFw.swap HK.out (mem_of_get HY.out) (mem_of_get HX.out)⟩, HG8.out, (swap_perm HX.out HY.out).trans HPS.out.1, Hole.swap swoTk HPS.out.2 HX.out HY.out hj (by rw [HZ.out]; exact of_decide_eq_true HZB.out)⟩
            case measure => simp [intOf]
        · obtain rfl : j = 0 := by omega
          have hi0 : decide ((0 : Int) < ((0 : Nat) : Int)) = false := by decide
          go_wp2_with fail
          refine H_begin (fun w' => wr.grownBy w' none) (by kernel_rfl) ?_
          refine H_take (k := 0) (v := ?_) (by rfl) (by kernel_rfl) (by kernel_rfl) (by kernel_rfl) (by exact fun _ _ _ h => h) (by rfl) ?_ (by assumption) ?_
          rotate_left 1
          · intro w hSw
            (try dsimp only at hSw)
            go_simp
            (try with_reducible rfl)
          (try simp only [Act.put, List.setIfInBounds_toArray, List.set_cons_zero, List.set_cons_succ])
          refine H_take (k := 1) (v := ?_) (by rfl) (by kernel_rfl) (by kernel_rfl) (by kernel_rfl) (by exact fun _ _ _ h => h) (by rfl) ?_ (by assumption) ?_
          rotate_left 1
          · intro w hSw
            (try dsimp only at hSw)
            go_simp
            (try with_reducible rfl)
          (try simp only [Act.put, List.setIfInBounds_toArray, List.set_cons_zero, List.set_cons_succ])
          refine H_take (k := 2) (v := ?_) (by rfl) (by kernel_rfl) (by kernel_rfl) (by kernel_rfl) (by exact fun _ _ _ h => h) (by rfl) ?_ (by assumption) ?_
          rotate_left 1
          · intro w hSw
            (try dsimp only at hSw)
            go_simp
            (try with_reducible rfl)
          (try simp only [Act.put, List.setIfInBounds_toArray, List.set_cons_zero, List.set_cons_succ])
          refine H_take (k := 3) (v := ?_) (by rfl) (by kernel_rfl) (by kernel_rfl) (by kernel_rfl) (by exact fun _ _ _ h => h) (by rfl) ?_ (by assumption) ?_
          rotate_left 1
          · intro w hSw
            (try dsimp only at hSw)
            go_simp
            (try with_reducible rfl)
          (try simp only [Act.put, List.setIfInBounds_toArray, List.set_cons_zero, List.set_cons_succ])
          refine H_skip (k := 4) (by rfl) (by kernel_rfl) (by kernel_rfl) (by kernel_rfl) (by exact fun _ _ _ h => h) (by rfl) (by assumption) ?_
          (try simp only [Act.put, List.setIfInBounds_toArray, List.set_cons_zero, List.set_cons_succ])
          refine H_skip (k := 5) (by rfl) (by kernel_rfl) (by kernel_rfl) (by kernel_rfl) (by exact fun _ _ _ h => h) (by rfl) (by assumption) ?_
          (try simp only [Act.put, List.setIfInBounds_toArray, List.set_cons_zero, List.set_cons_succ])
          refine H_skip (k := 6) (by rfl) (by kernel_rfl) (by kernel_rfl) (by kernel_rfl) (by exact fun _ _ _ h => h) (by rfl) (by assumption) ?_
          (try simp only [Act.put, List.setIfInBounds_toArray, List.set_cons_zero, List.set_cons_succ])
          refine H_skip (k := 7) (by rfl) (by kernel_rfl) (by kernel_rfl) (by kernel_rfl) (by exact fun _ _ _ h => h) (by rfl) (by assumption) ?_
          (try simp only [Act.put, List.setIfInBounds_toArray, List.set_cons_zero, List.set_cons_succ])
          refine H_skip (k := 8) (by rfl) (by kernel_rfl) (by kernel_rfl) (by kernel_rfl) (by exact fun _ _ _ h => h) (by rfl) (by assumption) ?_
          (try simp only [Act.put, List.setIfInBounds_toArray, List.set_cons_zero, List.set_cons_succ])
          refine H_skip (k := 9) (by rfl) (by kernel_rfl) (by kernel_rfl) (by kernel_rfl) (by exact fun _ _ _ h => h) (by rfl) (by assumption) ?_
          (try simp only [Act.put, List.setIfInBounds_toArray, List.set_cons_zero, List.set_cons_succ])
          refine H_skip (k := 10) (by rfl) (by kernel_rfl) (by kernel_rfl) (by kernel_rfl) (by exact fun _ _ _ h => h) (by rfl) (by assumption) ?_
          (try simp only [Act.put, List.setIfInBounds_toArray, List.set_cons_zero, List.set_cons_succ])
          refine H_skip (k := 11) (by rfl) (by kernel_rfl) (by kernel_rfl) (by kernel_rfl) (by exact fun _ _ _ h => h) (by rfl) (by assumption) ?_
          (try simp only [Act.put, List.setIfInBounds_toArray, List.set_cons_zero, List.set_cons_succ])
          refine H_skip (k := 12) (by rfl) (by kernel_rfl) (by kernel_rfl) (by kernel_rfl) (by exact fun _ _ _ h => h) (by rfl) (by assumption) ?_
          (try simp only [Act.put, List.setIfInBounds_toArray, List.set_cons_zero, List.set_cons_succ])
          refine H_skip (k := 13) (by rfl) (by kernel_rfl) (by kernel_rfl) (by kernel_rfl) (by exact fun _ _ _ h => h) (by rfl) (by assumption) ?_
          (try simp only [Act.put, List.setIfInBounds_toArray, List.set_cons_zero, List.set_cons_succ])
          refine H_skip (k := 14) (by rfl) (by kernel_rfl) (by kernel_rfl) (by kernel_rfl) (by exact fun _ _ _ h => h) (by rfl) (by assumption) ?_
          (try simp only [Act.put, List.setIfInBounds_toArray, List.set_cons_zero, List.set_cons_succ])
          refine H_skip (k := 15) (by rfl) (by kernel_rfl) (by kernel_rfl) (by kernel_rfl) (by exact fun _ _ _ h => h) (by rfl) (by assumption) ?_
          (try simp only [Act.put, List.setIfInBounds_toArray, List.set_cons_zero, List.set_cons_succ])
          refine H_take (k := 16) (v := ?_) (by rfl) (by kernel_rfl) (by kernel_rfl) (by kernel_rfl) (by exact fun _ _ _ h => h) (by rfl) ?_ (by assumption) ?_
          rotate_left 1
          · intro w hSw
            (try dsimp only at hSw)
            go_simp
            (try with_reducible rfl)
          (try simp only [Act.put, List.setIfInBounds_toArray, List.set_cons_zero, List.set_cons_succ])
          refine H_done (by kernel_rfl) ?_
          clear hi0 hHeld
          have HO6 := Lib.hid (HO.out.kept (gr_drew (gr_refl _ none)) (fun g e => by cases e))
          have HG6 := Lib.hid (gr_drew HG.out)
          go_wp2_with fail
          go_roundw
          case rel => exact ⟨i + 1, l2, by go_num, by omega, by omega, ⟨HO6.out, HK.out⟩, HG6.out, HPS.out.1, Hole.done0 HPS.out.2⟩
          case measure => simp [intOf]; omega
    · have hl0 : ¬ (i : Int) < (n : Int) := by omega
      go_wp2_with fail
      go_end0
      exact ⟨rfl, l1, HO.out, HG.out, HPS.out.1, HPS.out.2.asc (by rw [HO.out.1.2]; omega)⟩
set_option maxHeartbeats 2000000 in
theorem stableFR_any (lo : Nat) (A : Option Addr) (n c : Nat) (l : List FwV) (w : World) (h : OwnFw w lo A n c l) (hn : n ≤ 19) (tb : Nat) (hkt : Blk w tb 160 #[.func (.func 72) #[] #[]]) (htn : ∀ g, blkOf A = some g → g ≠ tb) :
    Calls Tryz.prog 113 #[.slice A n c, .int .i64 n, .func (.func 74) #[] #[.pointer (some ⟨tb, 0, none⟩)]] w (SortedFR A n c lo l w) := by
  have H := Lib.hid h; have HKT := Lib.hid hkt; have HTN := Lib.hid htn; clear h hkt htn
  have d1 : decide ((20 : Int) ≤ (n : Int)) = false := decide_eq_false (by omega)
  have d2 : decide ((20 : Int) < (n : Int)) = false := decide_eq_false (by omega)
  go_enter Tryz.func113, Tryz.ntmps113
  go_wp2_with fail
  go_loopw [7, 8] (fun x y wr => x = .int .i64 0 ∧ y = .int .i64 20 ∧ w = wr) (fun _ _ _ => 0)
  case atStart => exact ⟨rfl, rfl, rfl⟩
  case round =>
    obtain ⟨rfl, rfl, rfl⟩ := hrel
    go_wp2_with fail
    refine (insSortFR_any lo A n c l _ H.out (by omega) tb HKT.out HTN.out).mono ?_
    rintro e w2 ⟨rfl, l2, hown, hg, hps⟩
    have HO := Lib.hid hown; have HG := Lib.hid hg; have HPS := Lib.hid hps; clear hown hg hps
    go_wp2_with fail
    go_loopw [6, 7, 8] (fun x _ _ wr => x = .int .i64 20 ∧ w2 = wr) (fun _ _ _ _ => 0)
    case atStart => exact ⟨rfl, rfl⟩
    case round =>
      obtain ⟨rfl, rfl⟩ := hrel
      go_wp2_with fail
      go_end0
      exact ⟨rfl, l2, HO.out, HG.out, HPS.out⟩
set_option maxHeartbeats 1000000 in
theorem sortStableFR_any (lo : Nat) (A : Option Addr) (n c : Nat) (l : List FwV) (w : World) (h : OwnFw w lo A n c l) (hn : n ≤ 19) (tb : Nat) (hkt : Blk w tb 160 #[.func (.func 72) #[] #[]]) (htn : ∀ g, blkOf A = some g → g ≠ tb) :
    Calls Tryz.prog 73 #[.slice A n c, .func (.func 74) #[] #[.pointer (some ⟨tb, 0, none⟩)]] w (SortedFR A n c lo l w) := by
  have H := Lib.hid h; have HKT := Lib.hid hkt; have HTN := Lib.hid htn; clear h hkt htn
  go_enter Tryz.func73, Tryz.ntmps73
  go_wp2_with fail
  refine (stableFR_any lo A n c l _ H.out hn tb HKT.out HTN.out).mono ?_
  rintro e w2 ⟨rfl, l2, hown, hg, hps⟩
  have HO := Lib.hid hown; have HG := Lib.hid hg; have HPS := Lib.hid hps; clear hown hg hps
  go_wp2_with fail
  go_end0
  exact ⟨rfl, l2, HO.out, HG.out, HPS.out⟩
set_option maxHeartbeats 8000000 in
set_option maxRecDepth 100000 in
theorem compactFR_any (lo : Nat) (A : Option Addr) (n c : Nat) (l : List FwV) (w : World) (h : OwnFw w lo A n c l) (hn : n ≤ 1000) (tb : Nat) (hkt : Blk w tb 160 #[.func (.func 72) #[] #[]]) (htn : ∀ g, blkOf A = some g → g ≠ tb) :
    Calls Tryz.prog 76 #[.slice A n c, .func (.func 77) #[] #[.pointer (some ⟨tb, 0, none⟩)]] w (fun e w' => ∃ m l', e = .returned (.slice A m c) ∧ OwnFw w' lo A m c l' ∧ w.grownBy w' (blkOf A) ∧ m ≤ n ∧ l'.Sublist l ∧ NoTk l' l'.length) := by
  have H := Lib.hid h; have HKT := Lib.hid hkt; have HTN := Lib.hid htn; clear h hkt htn
  by_cases h2 : n < 2
  · have d0 : decide ((n : Int) < 2) = true := decide_eq_true (by omega)
    go_enter Tryz.func76, Tryz.ntmps76
    go_wp2_with fail
    go_ret
    exact ⟨n, l, rfl, H.out, gr_refl _ _, Nat.le_refl _, List.Sublist.refl _, NoTk.short (by rw [H.out.1.2]; omega)⟩
  · have d0 : decide ((n : Int) < 2) = false := decide_eq_false (by omega)
    obtain ⟨g, rfl, hgl, hgs⟩ := H.out.1.1.pos (by omega)
    have hcn := H.out.1.1.cap
    go_enter Tryz.func76, Tryz.ntmps76
    go_wp2_with fail
    clear d0
    go_loopw [5, 6, 7] (fun t _ _ wr => ∃ k : Nat, t = .int .i64 k ∧ 1 ≤ k ∧ k ≤ n ∧ OwnR FwV.row 4 wr lo 97 (some ⟨g, 0, none⟩) n c l ∧ w.grownBy wr (some g) ∧ NoTk l k) (fun t _ _ _ => n - (intOf t).toNat)
    case atStart => exact ⟨1, rfl, Nat.le_refl _, by omega, H.out.1, gr_refl _ _, NoTk.one⟩
    case round =>
      obtain ⟨k, rfl, hk1, hkn, hown, hg, hne⟩ := hrel
      have HNE := Lib.hid hne
      clear hne
      have HO := Lib.hid hown; have HG := Lib.hid hg; have HK := Lib.hid H.out.2
      clear hown hg
      by_cases hlt : k < n
      · have hlt2 : (k : Int) < (n : Int) := by omega
        obtain ⟨⟨ln1, wh1, too1, hr1⟩, hx⟩ : ∃ b, l[k]? = some b := ⟨_, List.getElem?_eq_getElem (by rw [HO.out.2]; omega)⟩
        obtain ⟨⟨ln2, wh2, too2, hr2⟩, hy⟩ : ∃ b, l[k - 1]? = some b := ⟨_, List.getElem?_eq_getElem (by rw [HO.out.2]; omega)⟩
        have HX := Lib.hid hx; have HY := Lib.hid hy; clear hx hy
        have HRO := Lib.hid HO.out.recs
        have s2 : (0 : Int) ≤ (k : Int) - 1 := by omega
        have s5 : (1 : Int) ≤ (k : Int) := by omega
        have s3 : (k : Int) - 1 < (n : Int) := by omega
        have s6 : (0 : Int) < (n : Int) := by omega
        have s1 : IntKind.i64.wrap ((k : Int) - 1) = (k : Int) - 1 := IntWalk.i64_in _ (by omega)
        have s4 : ((k : Int) - 1).toNat = k - 1 := by omega
        have s7 : (0 : Int) ≤ (k : Int) := by omega
        go_wp2_with fail
        refine H_begin (fun w' => wr.grownBy w' none) (by kernel_rfl) ?_
        have hHeld : wr.grownBy wr.drew none := gr_drew (gr_refl _ _)
        refine H_take (k := 0) (v := ?_) (by rfl) (by kernel_rfl) (by kernel_rfl) (by kernel_rfl) (by exact fun _ _ _ h => h) (by rfl) ?_ (by assumption) ?_
        rotate_left 1
        · intro w hSw
          (try dsimp only at hSw)
          go_simp
          (try with_reducible rfl)
        (try simp only [Act.put, List.setIfInBounds_toArray, List.set_cons_zero, List.set_cons_succ])
        refine H_take (k := 1) (v := ?_) (by rfl) (by kernel_rfl) (by kernel_rfl) (by kernel_rfl) (by exact fun _ _ _ h => h) (by rfl) ?_ (by assumption) ?_
        rotate_left 1
        · intro w hSw
          (try dsimp only at hSw)
          go_simp
          (try with_reducible rfl)
        (try simp only [Act.put, List.setIfInBounds_toArray, List.set_cons_zero, List.set_cons_succ])
        refine H_take (k := 2) (v := ?_) (by rfl) (by kernel_rfl) (by kernel_rfl) (by kernel_rfl) (by exact fun _ _ _ h => h) (by rfl) ?_ (by assumption) ?_
        rotate_left 1
        · intro w hSw
          (try dsimp only at hSw)
          go_simp
          (try with_reducible rfl)
        (try simp only [Act.put, List.setIfInBounds_toArray, List.set_cons_zero, List.set_cons_succ])
        refine H_take (k := 3) (v := ?_) (by rfl) (by kernel_rfl) (by kernel_rfl) (by kernel_rfl) (by exact fun _ _ _ h => h) (by rfl) ?_ (by assumption) ?_
        rotate_left 1
        · intro w hSw
          (try dsimp only at hSw)
          go_simp
          (try with_reducible rfl)
        (try simp only [Act.put, List.setIfInBounds_toArray, List.set_cons_zero, List.set_cons_succ])
        refine H_take (k := 4) (v := .agg #[.string ln1, .int .i64 wh1, .string too1, .string hr1]) (by rfl) (by kernel_rfl) (by kernel_rfl) (by kernel_rfl) (by exact fun _ _ _ h => h) (by rfl) (fun w' hSw => exec_ldr Tryz.fwT _ rfl _ rfl [.string ln1, .int .i64 wh1, .string too1, .string hr1] (fun j u hu => by rw [add_mk]; have hcc := ((HRO.out.grown hSw (fun g e => by cases e)).at_ FwV.row_len HX.out) j u hu; simp only [Nat.zero_add] at hcc; exact hcc) rfl) (by assumption) ?_
        (try simp only [Act.put, List.setIfInBounds_toArray, List.set_cons_zero, List.set_cons_succ])
        refine H_take (k := 5) (v := ?_) (by rfl) (by kernel_rfl) (by kernel_rfl) (by kernel_rfl) (by exact fun _ _ _ h => h) (by rfl) ?_ (by assumption) ?_
        rotate_left 1
        · intro w hSw
          (try dsimp only at hSw)
          go_simp
          (try with_reducible rfl)
        (try simp only [Act.put, List.setIfInBounds_toArray, List.set_cons_zero, List.set_cons_succ])
        refine H_take (k := 6) (v := ?_) (by rfl) (by kernel_rfl) (by kernel_rfl) (by kernel_rfl) (by exact fun _ _ _ h => h) (by rfl) ?_ (by assumption) ?_
        rotate_left 1
        · intro w hSw
          (try dsimp only at hSw)
          go_simp
          (try with_reducible rfl)
        (try simp only [Act.put, List.setIfInBounds_toArray, List.set_cons_zero, List.set_cons_succ])
        refine H_take (k := 7) (v := ?_) (by rfl) (by kernel_rfl) (by kernel_rfl) (by kernel_rfl) (by exact fun _ _ _ h => h) (by rfl) ?_ (by assumption) ?_
        rotate_left 1
        · intro w hSw
          (try dsimp only at hSw)
          go_simp
          (try with_reducible rfl)
        (try simp only [Act.put, List.setIfInBounds_toArray, List.set_cons_zero, List.set_cons_succ])
        refine H_take (k := 8) (v := ?_) (by rfl) (by kernel_rfl) (by kernel_rfl) (by kernel_rfl) (by exact fun _ _ _ h => h) (by rfl) ?_ (by assumption) ?_
        rotate_left 1
        · intro w hSw
          (try dsimp only at hSw)
          go_simp
          (try with_reducible rfl)
        (try simp only [Act.put, List.setIfInBounds_toArray, List.set_cons_zero, List.set_cons_succ])
        refine H_take (k := 9) (v := .agg #[.string ln2, .int .i64 wh2, .string too2, .string hr2]) (by rfl) (by kernel_rfl) (by kernel_rfl) (by kernel_rfl) (by exact fun _ _ _ h => h) (by rfl) (fun w' hSw => exec_ldr Tryz.fwT _ rfl _ rfl [.string ln2, .int .i64 wh2, .string too2, .string hr2] (fun j u hu => by rw [add_mk]; have hcc := ((HRO.out.grown hSw (fun g e => by cases e)).at_ FwV.row_len HY.out) j u hu; simp only [Nat.zero_add] at hcc; exact hcc) rfl) (by assumption) ?_
        (try simp only [Act.put, List.setIfInBounds_toArray, List.set_cons_zero, List.set_cons_succ])
        refine H_run (k := 10) (by rfl) (by kernel_rfl) (by rfl) (fun K hK => ?_)
        go_simp
        refine (tidyEq_any ⟨ln1, wh1, too1, hr1⟩ ⟨ln2, wh2, too2, hr2⟩ tb _ ((HKT.out.grown HG.out (fun e => HTN.out g rfl (by injection e with e; exact e.symm))).grown hHeld (by simp)) (HK.out _ (mem_of_get HX.out)) (HK.out _ (mem_of_get HY.out))).mono ?_
        rintro e w6 ⟨rfl, hg6⟩
        obtain ⟨ZB, hZB⟩ : ∃ ZB, ((tkS ⟨ln1, wh1, too1, hr1⟩).toList == (tkS ⟨ln2, wh2, too2, hr2⟩).toList) = ZB := ⟨_, rfl⟩
        rw [hZB]
        have hgz := gr_none hHeld hg6
        refine hK _ _ hgz ?_
        clear hK K hHeld hg6
        have hHeld := hgz
        (try simp only [Act.put, List.setIfInBounds_toArray, List.set_cons_zero, List.set_cons_succ])
        refine H_done (by kernel_rfl) ?_
        have HO6 := Lib.hid (HO.out.kept hgz (fun g e => by cases e))
        have HG6 := Lib.hid (gr_none HG.out hgz)
        have HZB := Lib.hid hZB
        clear hgz hHeld hZB
        clear s1 s2 s3 s4 s5 s6
        cases ZB
        · go_wp2_with fail
          go_roundw
          case rel => exact ⟨k + 1, by go_num, by omega, by omega, HO6.out, HG6.out, HNE.out.succ (by omega) HX.out HY.out (tk_ne HZB.out)⟩
          case measure => simp [intOf]; omega
        · have HCM := Lib.hid (show CmTk l l k (k + 1) from CmTk.begin_ HNE.out (by omega) HX.out HY.out (tk_eq HZB.out))
          clear HO HG HX HY HRO HK HZB HNE
          have hck : ¬ c = k := by omega
          have s8 : (k : Int) ≤ (n : Int) := by omega
          go_wp2_with fail
          clear s8
          obtain ⟨w7, rfl⟩ : ∃ w7 : World, w7 = w6 := ⟨_, rfl⟩
          go_loopw [5, 7] (fun t5 t7 wr => ∃ (j q : Nat) (l' : List FwV), t5 = .int .i64 j ∧ t7 = .int .i64 q ∧ 1 ≤ q ∧ k ≤ j ∧ j < k + q ∧ k + q ≤ n ∧ OwnFw wr lo (some ⟨g, 0, none⟩) n c l' ∧ w.grownBy wr (some g) ∧ CmTk l l' j (k + q)) (fun _ t7 _ => n - (intOf t7).toNat)
          case atStart => exact ⟨k, 1, l, rfl, rfl, Nat.le_refl _, Nat.le_refl _, by omega, by omega, ⟨HO6.out, H.out.2⟩, HG6.out, HCM.out⟩
          case round =>
            clear HO6 HG6 HCM
            obtain ⟨j, q, l1, rfl, rfl, hq1, hkj, hjq, hqn, hown, hg, hcm⟩ := hrel
            have HCM := Lib.hid hcm; clear hcm
            have HO := Lib.hid hown.1; have HK := Lib.hid hown.2; have HG := Lib.hid hg
            clear hown hg
            by_cases hltq : k + q < n
            · have hq2 : (q : Int) < ((n - k : Nat) : Int) := by omega
              obtain ⟨⟨ln1, wh1, too1, hr1⟩, hx⟩ : ∃ b, l1[k + q]? = some b := ⟨_, List.getElem?_eq_getElem (by rw [HO.out.2]; omega)⟩
              obtain ⟨⟨ln2, wh2, too2, hr2⟩, hy⟩ : ∃ b, l1[k + (q - 1)]? = some b := ⟨_, List.getElem?_eq_getElem (by rw [HO.out.2]; omega)⟩
              have HX := Lib.hid (show (l1.drop k)[q]? = some ⟨ln1, wh1, too1, hr1⟩ by rw [List.getElem?_drop]; exact hx)
              have HY := Lib.hid (show (l1.drop k)[q - 1]? = some ⟨ln2, wh2, too2, hr2⟩ by rw [List.getElem?_drop]; exact hy)
              have HMX := Lib.hid (mem_of_get hx); have HMY := Lib.hid (mem_of_get hy)
              have HLX := Lib.hid (show l[k + q]? = some ⟨ln1, wh1, too1, hr1⟩ by rw [← HCM.out.rest _ (by omega)]; exact hx)
              have HLY := Lib.hid (show l[k + q - 1]? = some ⟨ln2, wh2, too2, hr2⟩ by rw [← HCM.out.rest _ (by omega), show k + q - 1 = k + (q - 1) by omega]; exact hy)
              clear hx hy
              have HRO := Lib.hid (HO.out.recs.dropK FwV.row_len (i := k) (by omega))
              have s2 : (0 : Int) ≤ (q : Int) - 1 := by omega
              have s5 : (1 : Int) ≤ (q : Int) := by omega
              have s3 : (q : Int) - 1 < ((n - k : Nat) : Int) := by omega
              have s1 : IntKind.i64.wrap ((q : Int) - 1) = (q : Int) - 1 := IntWalk.i64_in _ (by omega)
              have s4 : ((q : Int) - 1).toNat = q - 1 := by omega
              have s7 : (0 : Int) ≤ (q : Int) := by omega
              have u1 : IntKind.i64.wrap ((q : Int) + 1) = (q : Int) + 1 := IntWalk.i64_in _ (by omega)
              have u2 : IntKind.i64.wrap ((j : Int) + 1) = (j : Int) + 1 := IntWalk.i64_in _ (by omega)
              have hj2 : (j : Int) < (n : Int) := by omega
              go_wp2_with fail
              refine H_begin (fun w' => wr.grownBy w' none) (by kernel_rfl) ?_
              have hHeld : wr.grownBy wr.drew none := gr_drew (gr_refl _ _)
              refine H_take (k := 0) (v := ?_) (by rfl) (by kernel_rfl) (by kernel_rfl) (by kernel_rfl) (by exact fun _ _ _ h => h) (by rfl) ?_ (by assumption) ?_
              rotate_left 1
              · intro w hSw
                (try dsimp only at hSw)
                go_simp
                (try with_reducible rfl)
              (try simp only [Act.put, List.setIfInBounds_toArray, List.set_cons_zero, List.set_cons_succ])
              refine H_take (k := 1) (v := ?_) (by rfl) (by kernel_rfl) (by kernel_rfl) (by kernel_rfl) (by exact fun _ _ _ h => h) (by rfl) ?_ (by assumption) ?_
              rotate_left 1
              · intro w hSw
                (try dsimp only at hSw)
                go_simp
                (try with_reducible rfl)
              (try simp only [Act.put, List.setIfInBounds_toArray, List.set_cons_zero, List.set_cons_succ])
              refine H_take (k := 2) (v := ?_) (by rfl) (by kernel_rfl) (by kernel_rfl) (by kernel_rfl) (by exact fun _ _ _ h => h) (by rfl) ?_ (by assumption) ?_
              rotate_left 1
              · intro w hSw
                (try dsimp only at hSw)
                go_simp
                (try with_reducible rfl)
              (try simp only [Act.put, List.setIfInBounds_toArray, List.set_cons_zero, List.set_cons_succ])
              refine H_take (k := 3) (v := ?_) (by rfl) (by kernel_rfl) (by kernel_rfl) (by kernel_rfl) (by exact fun _ _ _ h => h) (by rfl) ?_ (by assumption) ?_
              rotate_left 1
              · intro w hSw
                (try dsimp only at hSw)
                go_simp
                (try with_reducible rfl)
              (try simp only [Act.put, List.setIfInBounds_toArray, List.set_cons_zero, List.set_cons_succ])
              refine H_take (k := 4) (v := .agg #[.string ln1, .int .i64 wh1, .string too1, .string hr1]) (by rfl) (by kernel_rfl) (by kernel_rfl) (by kernel_rfl) (by exact fun _ _ _ h => h) (by rfl) (fun w' hSw => exec_ldr Tryz.fwT _ rfl _ rfl [.string ln1, .int .i64 wh1, .string too1, .string hr1] (fun j u hu => by rw [add_mk]; have hcc := ((HRO.out.grown hSw (fun g e => by cases e)).at_ FwV.row_len HX.out) j u hu; simp only [Nat.zero_add] at hcc; exact hcc) rfl) (by assumption) ?_
              (try simp only [Act.put, List.setIfInBounds_toArray, List.set_cons_zero, List.set_cons_succ])
              refine H_take (k := 5) (v := ?_) (by rfl) (by kernel_rfl) (by kernel_rfl) (by kernel_rfl) (by exact fun _ _ _ h => h) (by rfl) ?_ (by assumption) ?_
              rotate_left 1
              · intro w hSw
                (try dsimp only at hSw)
                go_simp
                (try with_reducible rfl)
              (try simp only [Act.put, List.setIfInBounds_toArray, List.set_cons_zero, List.set_cons_succ])
              refine H_take (k := 6) (v := ?_) (by rfl) (by kernel_rfl) (by kernel_rfl) (by kernel_rfl) (by exact fun _ _ _ h => h) (by rfl) ?_ (by assumption) ?_
              rotate_left 1
              · intro w hSw
                (try dsimp only at hSw)
                go_simp
                (try with_reducible rfl)
              (try simp only [Act.put, List.setIfInBounds_toArray, List.set_cons_zero, List.set_cons_succ])
              refine H_take (k := 7) (v := ?_) (by rfl) (by kernel_rfl) (by kernel_rfl) (by kernel_rfl) (by exact fun _ _ _ h => h) (by rfl) ?_ (by assumption) ?_
              rotate_left 1
              · intro w hSw
                (try dsimp only at hSw)
                go_simp
                (try with_reducible rfl)
              (try simp only [Act.put, List.setIfInBounds_toArray, List.set_cons_zero, List.set_cons_succ])
              refine H_take (k := 8) (v := ?_) (by rfl) (by kernel_rfl) (by kernel_rfl) (by kernel_rfl) (by exact fun _ _ _ h => h) (by rfl) ?_ (by assumption) ?_
              rotate_left 1
              · intro w hSw
                (try dsimp only at hSw)
                go_simp
                (try with_reducible rfl)
              (try simp only [Act.put, List.setIfInBounds_toArray, List.set_cons_zero, List.set_cons_succ])
              refine H_take (k := 9) (v := .agg #[.string ln2, .int .i64 wh2, .string too2, .string hr2]) (by rfl) (by kernel_rfl) (by kernel_rfl) (by kernel_rfl) (by exact fun _ _ _ h => h) (by rfl) (fun w' hSw => exec_ldr Tryz.fwT _ rfl _ rfl [.string ln2, .int .i64 wh2, .string too2, .string hr2] (fun j u hu => by rw [add_mk]; have hcc := ((HRO.out.grown hSw (fun g e => by cases e)).at_ FwV.row_len HY.out) j u hu; simp only [Nat.zero_add] at hcc; exact hcc) rfl) (by assumption) ?_
              (try simp only [Act.put, List.setIfInBounds_toArray, List.set_cons_zero, List.set_cons_succ])
              refine H_run (k := 10) (by rfl) (by kernel_rfl) (by rfl) (fun K hK => ?_)
              go_simp
              refine (tidyEq_any ⟨ln1, wh1, too1, hr1⟩ ⟨ln2, wh2, too2, hr2⟩ tb _ ((HKT.out.grown HG.out (fun e => HTN.out g rfl (by injection e with e; exact e.symm))).grown hHeld (by simp)) (HK.out _ HMX.out) (HK.out _ HMY.out)).mono ?_
              rintro e w6 ⟨rfl, hg6⟩
              obtain ⟨ZB, hZB⟩ : ∃ ZB, ((tkS ⟨ln1, wh1, too1, hr1⟩).toList == (tkS ⟨ln2, wh2, too2, hr2⟩).toList) = ZB := ⟨_, rfl⟩
              rw [hZB]
              have hgz := gr_none hHeld hg6
              refine hK _ _ hgz ?_
              clear hK K hHeld hg6
              have hHeld := hgz
              (try simp only [Act.put, List.setIfInBounds_toArray, List.set_cons_zero, List.set_cons_succ])
              refine H_take (k := 11) (v := ?_) (by rfl) (by kernel_rfl) (by kernel_rfl) (by kernel_rfl) (by exact fun _ _ _ h => h) (by rfl) ?_ (by assumption) ?_
              rotate_left 1
              · intro w hSw
                (try dsimp only at hSw)
                go_simp
                (try with_reducible rfl)
              (try simp only [Act.put, List.setIfInBounds_toArray, List.set_cons_zero, List.set_cons_succ])
              refine H_done (by kernel_rfl) ?_
              have HO6 := Lib.hid (HO.out.kept hgz (fun g e => by cases e))
              have HG6 := Lib.hid (gr_none HG.out hgz)
              have HZB := Lib.hid hZB
              clear hgz hHeld hZB
              have HRO6 := Lib.hid (HO6.out.recs.dropK FwV.row_len (i := k) (by omega))
              have HC := Lib.hid (HRO6.out.at_ FwV.row_len HX.out)
              clear s1 s2 s3 s4 s5
              cases ZB
              · go_wp2_with (first
                  | (refine wpl_load_at Tryz.fwT rfl _ rfl _ rfl [.string ln1, .int .i64 wh1, .string too1, .string hr1] rfl (fun j u hu => by rw [add_mk]; have hcc := HC.out j u hu; (try simp only [Nat.zero_add] at hcc); exact hcc) ?_)
                  | (refine wpl_store_rec (row := FwV.row) rfl Tryz.fwT FwV.row_len (by decide) _ _ rfl j _ rfl rfl ⟨ln1, wh1, too1, hr1⟩ rfl HO6.out (by omega) (FwV.one _) ?_
                     intro w8 hown8 hg8
                     have HO8 := Lib.hid hown8
                     have HG8 := Lib.hid (gr_same HG6.out hg8)
                     clear hown8 hg8)
                  | fail)
                go_roundw
                case rel => exact ⟨j + 1, q + 1, _, by go_num, by go_num, by omega, by omega, by omega, by omega, ⟨HO8.out, fun r hr => by
                  rcases List.mem_or_eq_of_mem_set hr with h | rfl
                  · exact HK.out r h
                  · exact HK.out _ HMX.out⟩, HG8.out, HCM.out.put (by omega) (by omega) (by rw [HO6.out.2]; omega) HLX.out HLY.out (tk_ne HZB.out)⟩
                case measure => simp [intOf]; omega
              · go_wp2_with fail
                go_roundw
                case rel => exact ⟨j, q + 1, l1, rfl, by go_num, by omega, by omega, by omega, by omega, ⟨HO6.out, HK.out⟩, HG6.out, HCM.out.skip_ HLX.out HLY.out (tk_eq HZB.out)⟩
                case measure => simp [intOf]; omega
            · obtain rfl : q = n - k := by omega
              have hi2 : (j : Int) < (n : Int) := by omega
              have hi3 : (j : Int) ≤ (n : Int) := by omega
              have hcj : ¬ c = j := by omega
              obtain ⟨w9, hclr, ho9, hg9⟩ := run_clear_rows (P := Tryz.prog) Tryz.underlying50 Tryz.zeroValue97 rfl (by decide) (by intro v hv; simp [Value.cells] at hv; rcases hv with rfl | rfl | rfl | rfl <;> rfl) HO.out.1 j (j * 4) rfl (show j < n by omega) (n - j) (c - j) rfl
              have HO9 := Lib.hid (show OwnR FwV.row 4 w9 lo 97 (some ⟨g, 0, none⟩) j c (l1.take j) from ⟨by rw [← flat_take2 FwV.row_len]; exact ho9, by rw [List.length_take, HO.out.2]; omega⟩)
              have HG9 := Lib.hid (gr_same HG.out hg9)
              clear ho9 hg9
              go_wp2_with fail
              go_ret
              exact ⟨j, l1.take j, rfl, ⟨HO9.out, fun r hr => HK.out r (List.mem_of_mem_take hr)⟩, HG9.out, by omega, HCM.out.done (by rw [H.out.1.2]; omega)⟩
      · obtain rfl : k = n := by omega
        go_wp2_with fail
        go_ret
        exact ⟨k, l, rfl, ⟨HO.out, H.out.2⟩, HG.out, Nat.le_refl _, List.Sublist.refl _, by rw [H.out.1.2]; exact HNE.out⟩
end Go.Proofs.YtfakdalpaopjaaaGreatDoor

/- Contract of ActLines. Conditions: right acts of short strings; the table of powers of ten. -/
import Derived.Test.YtgogiljplnninaaGreatDoorBun3
namespace Go.Proofs.YtgogiljplnninaaGreatDoor
open Go.RowKit

theorem jn_one (x : ByteArray) : jnS [x] = x := by
  show (⟨(Lib.join [x.data.toList] [32]).toArray⟩ : ByteArray) = x
  rw [Lib.join_one]
set_option maxHeartbeats 16000000 in
set_option maxRecDepth 100000 in
theorem actLines_any (lo : Nat) (A : Option Addr) (n c0 : Nat) (l : List ActV) (w : World) (hS : Acs w lo A n c0 l) (hn : n ≤ 1000) (hw : ∀ z ∈ l, AcRg z) (hp : PwT w) :
    Calls Tryz.prog 25 #[.slice A n c0] w (RetV (.string ⟨(acTo l n).toArray⟩) w) := by
  have HRC := Lib.hid hS; have HRG := Lib.hid hw; have HPW := Lib.hid hp
  have HLEN := Lib.hid (fun k => acTo_len (l := l) (M := 1000) (fun z hz => ⟨hw z hz, (hS.2 z hz).1⟩) k)
  obtain ⟨nl, hnl⟩ : ∃ x, (⟨#[10]⟩ : ByteArray) = x := ⟨_, rfl⟩
  obtain ⟨sp, hsp⟩ : ∃ x, (⟨#[32]⟩ : ByteArray) = x := ⟨_, rfl⟩
  have HNL1 := Lib.hid (show nl.size = 1 by rw [← hnl]; rfl)
  have HNL := Lib.hid (show nl.data.toList = [10] by rw [← hnl])
  have HSP1 := Lib.hid (show sp.size = 1 by rw [← hsp]; rfl)
  have HSP := Lib.hid (show sp.data.toList = [32] by rw [← hsp])
  clear hS hw hp
  go_enter Tryz.func25, Tryz.ntmps25
  go_wp2_with fail
  go_loopw [3, 5, 8] (fun v _ t wr => ∃ (k : Nat) (s : ByteArray), k ≤ n ∧ t = .int .i64 k ∧ v = .string s ∧ s.data.toList = acTo l k ∧ w.grownBy wr none) (fun _ _ t _ => n - (intOf t).toNat)
  case atStart => exact ⟨0, ⟨#[]⟩, Nat.zero_le _, rfl, rfl, rfl, gr_refl _ _⟩
  case round =>
    obtain ⟨k, s, hk, rfl, rfl, hsd, hg⟩ := hrel
    have HG := Lib.hid hg; have HSD := Lib.hid hsd
    have hss : s.size = (acTo l k).length := by rw [← hsd]; rfl
    have hsl := HLEN.out k
    have bs : s.size ≤ 3800000 := by omega
    clear hg hsd hss hsl
    by_cases hlt : k < n
    · obtain ⟨sg, so, z, rfl, _, _, hz2, hzc⟩ := (HRC.out.1.grown HG.out (fun g e => by cases e)).get ActV.row_len hlt
      have hz := HRC.out.2 z (mem_of_get hz2)
      have hwz := HRG.out z (mem_of_get hz2)
      have hsz := acW_size (M := 1000) hwz hz.1.1 hz.1.2.1 hz.1.2.2
      obtain ⟨⟨a1, a2⟩, ⟨a3, a4⟩, ⟨a5, a6⟩, _⟩ := hwz
      obtain ⟨j, hj, hj5, hw5, hw6, hw8⟩ := kd_at a3 a4
      obtain ⟨n1, n2, n3⟩ := hz.1
      have HZC := Lib.hid hzc
      have HTO := Lib.hid (acTo_succ hz2)
      have HWJ := Lib.hid hw6
      have HHJ := Lib.hid (show z.kd = ((j : Nat) : Int) + 1 from hj)
      obtain ⟨J4, hJ4⟩ : ∃ J, ac4 z = J := ⟨_, rfl⟩
      obtain ⟨J6, hJ6⟩ : ∃ J, ac6 z = J := ⟨_, rfl⟩
      have hj4 : jnS [itS z.at_, z.bx, z.id, kdS z.kd] = J4 := hJ4
      have hj6 : jnS [itS z.at_, z.bx, z.id, kdS z.kd, itS z.lg, dashS z.frm] = J6 := hJ6
      have hln : acLine z = (if z.kd = 1 then J6 else J4).data.toList ++ [10] := by unfold acLine acW; rw [hJ4, hJ6]
      have HLN := Lib.hid hln
      have q1 := itS_size (n := z.at_) (by omega) (by omega)
      have q2 := itS_size (n := z.lg) (by omega) (by omega)
      have q3 := dashS_size z.frm
      rw [hJ4, hJ6] at hsz
      obtain ⟨s4, s6, _⟩ := hsz
      obtain ⟨IA, hIA⟩ : ∃ I, itS z.at_ = I := ⟨_, rfl⟩
      obtain ⟨IL, hIL⟩ : ∃ I, itS z.lg = I := ⟨_, rfl⟩
      obtain ⟨DF, hDF⟩ : ∃ I, dashS z.frm = I := ⟨_, rfl⟩
      obtain ⟨WD, hWD⟩ : ∃ I, kdS z.kd = I := ⟨_, rfl⟩
      rw [hIA, hWD] at hj4
      rw [hIA, hIL, hDF, hWD] at hj6
      rw [hIA] at q1
      rw [hIL] at q2
      rw [hDF] at q3
      rw [hWD] at HWJ hw8
      have HIA := Lib.hid hIA; have HIL := Lib.hid hIL; have HDF := Lib.hid hDF; have HJ4 := Lib.hid hj4; have HJ6 := Lib.hid hj6
      obtain ⟨LF, hLF⟩ : ∃ V, (z.kd == 1) = V := ⟨_, rfl⟩
      have HLF := Lib.hid hLF
      have hlt2 : (k : Int) < (n : Int) := by omega
      clear hz2 hzc hw5 hw6 hj hJ4 hJ6 hln hj4 hj6 hIA hIL hDF hWD a3 a4 hz hLF
      obtain ⟨w1, hw1⟩ : ∃ w1, wr.alloc (.cells #[.int .i64 z.at_, .string z.bx, .string z.id, .int .i64 z.kd, .int .i64 z.lg, .string z.frm] 56) = w1 := ⟨_, rfl⟩
      obtain ⟨zb, hzb⟩ : ∃ zb, wr.heap.size = zb := ⟨_, rfl⟩
      have HB := Lib.hid (show Blk w1 zb 56 #[.int .i64 z.at_, .string z.bx, .string z.id, .int .i64 z.kd, .int .i64 z.lg, .string z.frm] by rw [← hw1, ← hzb]; exact Blk.new _ _ _)
      have hga : wr.grownBy w1 none := by rw [← hw1]; exact gr_alloc (gr_refl _ _) _
      have HW1 := Lib.hid hw1; have HZB := Lib.hid hzb
      clear hw1 hzb
      replace HG := Lib.hid (gr_none HG.out hga)
      clear hga
      go_upto_region 5 with (first
        | (refine wpl_load_at Tryz.acT rfl _ rfl _ rfl [.int .i64 z.at_, .string z.bx, .string z.id, .int .i64 z.kd, .int .i64 z.lg, .string z.frm] rfl (fun j u hu => by rw [add_mk]; exact HZC.out j u hu) ?_)
        | fail)
      rw [HW1.out]
      (try rw [HZB.out])
      clear HZC HW1 HZB
      refine H_begin (fun w' => w1.grownBy w' none) (by kernel_rfl) ?_
      have hHeld : w1.grownBy w1.drew none := gr_drew (gr_refl _ _)
      generalize w1.drew = wd at hHeld ⊢
      have hHJ : z.kd = ((j + 1 : Nat) : Int) := by have := HHJ.out; omega
      have y1 := HSP1.out
      have gX1 : ¬ 9223372036854775807 < IA.size + sp.size := by omega
      obtain ⟨X1, hX1⟩ : ∃ x, IA ++ sp = x := ⟨_, rfl⟩
      have zX1 : X1.size = IA.size + sp.size := by rw [← hX1, appS2]
      have tX1 : X1.data.toList = IA.data.toList ++ sp.data.toList := by rw [← hX1, data_app]
      have gX2 : ¬ 9223372036854775807 < X1.size + z.bx.size := by omega
      obtain ⟨X2, hX2⟩ : ∃ x, X1 ++ z.bx = x := ⟨_, rfl⟩
      have zX2 : X2.size = X1.size + z.bx.size := by rw [← hX2, appS2]
      have tX2 : X2.data.toList = X1.data.toList ++ z.bx.data.toList := by rw [← hX2, data_app]
      have gX3 : ¬ 9223372036854775807 < X2.size + sp.size := by omega
      obtain ⟨X3, hX3⟩ : ∃ x, X2 ++ sp = x := ⟨_, rfl⟩
      have zX3 : X3.size = X2.size + sp.size := by rw [← hX3, appS2]
      have tX3 : X3.data.toList = X2.data.toList ++ sp.data.toList := by rw [← hX3, data_app]
      have gX4 : ¬ 9223372036854775807 < X3.size + z.id.size := by omega
      obtain ⟨X4, hX4⟩ : ∃ x, X3 ++ z.id = x := ⟨_, rfl⟩
      have zX4 : X4.size = X3.size + z.id.size := by rw [← hX4, appS2]
      have tX4 : X4.data.toList = X3.data.toList ++ z.id.data.toList := by rw [← hX4, data_app]
      have gX5 : ¬ 9223372036854775807 < X4.size + sp.size := by omega
      obtain ⟨X5, hX5⟩ : ∃ x, X4 ++ sp = x := ⟨_, rfl⟩
      have zX5 : X5.size = X4.size + sp.size := by rw [← hX5, appS2]
      have tX5 : X5.data.toList = X4.data.toList ++ sp.data.toList := by rw [← hX5, data_app]
      have gX6 : ¬ 9223372036854775807 < X5.size + WD.size := by omega
      obtain ⟨X6, hX6⟩ : ∃ x, X5 ++ WD = x := ⟨_, rfl⟩
      have zX6 : X6.size = X5.size + WD.size := by rw [← hX6, appS2]
      have tX6 : X6.data.toList = X5.data.toList ++ WD.data.toList := by rw [← hX6, data_app]
      have gS2 : ¬ 9223372036854775807 < s.size + X6.size := by omega
      obtain ⟨S2, hS2⟩ : ∃ x, s ++ X6 = x := ⟨_, rfl⟩
      have zS2 : S2.size = s.size + X6.size := by rw [← hS2, appS2]
      have tS2 : S2.data.toList = s.data.toList ++ X6.data.toList := by rw [← hS2, data_app]
      have HX6 := Lib.hid (show X6.data.toList = J4.data.toList by
        rw [tX6, tX5, tX4, tX3, tX2, tX1, HSP.out, ← HJ4.out, jn4_eq]
        simp only [List.append_assoc])
      have HS2 := Lib.hid (show S2.data.toList = acTo l k ++ J4.data.toList by rw [tS2, HSD.out, HX6.out])
      have bS2 : S2.size ≤ 4000000 := by omega
      clear tX1 tX2 tX3 tX4 tX5 tX6 tS2 y1 zX1 zX2 zX3 zX4 zX5 zX6 zS2
      refine H_take (k := 0) (v := ?_) (by rfl) (by kernel_rfl) (by kernel_rfl) (by kernel_rfl) (by exact fun _ _ _ h => h) (by rfl) ?_ (by assumption) ?_
      rotate_left 1
      · intro w hSw
        (try dsimp only at hSw)
        go_simp
        (try with_reducible rfl)
      (try simp only [Act.put, List.setIfInBounds_toArray, List.set_cons_zero, List.set_cons_succ])
      refine H_take (k := 1) (v := ?_) (by rfl) (by kernel_rfl) (by kernel_rfl) (by kernel_rfl) (by exact fun _ _ _ h => h) (by rfl) ?_ (by assumption) ?_
      rotate_left 1
      · intro w hSw
        (try dsimp only at hSw)
        go_simp
        (try with_reducible rfl)
      (try simp only [Act.put, List.setIfInBounds_toArray, List.set_cons_zero, List.set_cons_succ])
      refine H_take (k := 2) (v := ?_) (by rfl) (by kernel_rfl) (by kernel_rfl) (by kernel_rfl) (by exact fun _ _ _ h => h) (by rfl) ?_ (by assumption) ?_
      rotate_left 1
      · intro w' hSw
        have kc := (HB.out.grown hSw (by simp)).cell 0
        go_simp
        (try with_reducible rfl)
      (try simp only [Act.put, List.setIfInBounds_toArray, List.set_cons_zero, List.set_cons_succ])
      refine H_take (k := 6) (v := ?_) (by rfl) (by kernel_rfl) (by kernel_rfl) (by kernel_rfl) (by exact fun _ _ _ h => h) (by rfl) ?_ (by assumption) ?_
      rotate_left 1
      · intro w hSw
        (try dsimp only at hSw)
        go_simp
        (try with_reducible rfl)
      (try simp only [Act.put, List.setIfInBounds_toArray, List.set_cons_zero, List.set_cons_succ])
      refine H_take (k := 7) (v := ?_) (by rfl) (by kernel_rfl) (by kernel_rfl) (by kernel_rfl) (by exact fun _ _ _ h => h) (by rfl) ?_ (by assumption) ?_
      rotate_left 1
      · intro w' hSw
        have kc := (HB.out.grown hSw (by simp)).cell 1
        go_simp
        (try with_reducible rfl)
      (try simp only [Act.put, List.setIfInBounds_toArray, List.set_cons_zero, List.set_cons_succ])
      refine H_take (k := 10) (v := ?_) (by rfl) (by kernel_rfl) (by kernel_rfl) (by kernel_rfl) (by exact fun _ _ _ h => h) (by rfl) ?_ (by assumption) ?_
      rotate_left 1
      · intro w hSw
        (try dsimp only at hSw)
        go_simp
        (try with_reducible rfl)
      (try simp only [Act.put, List.setIfInBounds_toArray, List.set_cons_zero, List.set_cons_succ])
      refine H_take (k := 11) (v := ?_) (by rfl) (by kernel_rfl) (by kernel_rfl) (by kernel_rfl) (by exact fun _ _ _ h => h) (by rfl) ?_ (by assumption) ?_
      rotate_left 1
      · intro w' hSw
        have kc := (HB.out.grown hSw (by simp)).cell 2
        go_simp
        (try with_reducible rfl)
      (try simp only [Act.put, List.setIfInBounds_toArray, List.set_cons_zero, List.set_cons_succ])
      refine H_take (k := 15) (v := ?_) (by rfl) (by kernel_rfl) (by kernel_rfl) (by kernel_rfl) (by exact fun _ _ _ h => h) (by rfl) ?_ (by assumption) ?_
      rotate_left 1
      · intro w hSw
        (try dsimp only at hSw)
        go_simp
        (try with_reducible rfl)
      (try simp only [Act.put, List.setIfInBounds_toArray, List.set_cons_zero, List.set_cons_succ])
      refine H_take (k := 16) (v := ?_) (by rfl) (by kernel_rfl) (by kernel_rfl) (by kernel_rfl) (by exact fun _ _ _ h => h) (by rfl) ?_ (by assumption) ?_
      rotate_left 1
      · intro w' hSw
        have kc := (HB.out.grown hSw (by simp)).cell 3
        go_simp
        (try with_reducible rfl)
      (try simp only [Act.put, List.setIfInBounds_toArray, List.set_cons_zero, List.set_cons_succ])
      obtain ⟨b7, hb7⟩ : ∃ b, wd.heap.size = b := ⟨_, rfl⟩
      obtain ⟨wi, hwi⟩ : ∃ v, wd.alloc (.cells #[.int .i64 z.at_] 3) = v := ⟨_, rfl⟩
      have hga : wd.grownBy wi none := by rw [← hwi]; exact gr_alloc (gr_refl _ _) _
      have HRI := Lib.hid (show Recs nrow 1 wi b7 (some ⟨b7, 0, none⟩) 1 1 [z.at_] from ⟨by rw [nrow_map, ← hwi, ← hb7]; exact Reads.blk (Blk.new _ _ _) 1 1 rfl, rfl⟩)
      have hgz := gr_none hHeld hga
      refine H_run (k := 3) (by rfl) (by kernel_rfl) (by rfl) (fun K hK => ?_)
      go_simp
      (try rw [hwi])
      (try rw [hb7])
      refine hK _ _ hgz ?_
      clear hK K
      clear hHeld hwi hb7 hga
      have hHeld := hgz
      clear hgz
      (try simp only [Act.put, List.setIfInBounds_toArray, List.set_cons_zero, List.set_cons_succ])
      refine H_run (k := 4) (by rfl) (by kernel_rfl) (by rfl) (fun K hK => ?_)
      go_simp
      refine (numbers_any b7 (some ⟨b7, 0, none⟩) 1 1 [z.at_] _ HRI.out (by omega) (by omega) (fun x hx => by rw [List.mem_singleton.1 hx]; omega) (HPW.out.grown (gr_none HG.out hHeld)) (by rw [show [z.at_].map itS = [itS z.at_] from rfl, jn_one, HIA.out]; omega)).mono ?_
      rintro e wx ⟨rfl, hgx⟩
      rw [show [z.at_].map itS = [itS z.at_] from rfl, jn_one, HIA.out]
      have hgz := gr_none hHeld hgx
      refine hK _ _ hgz ?_
      clear hK K
      clear hHeld hgx HRI
      have hHeld := hgz
      clear hgz
      (try simp only [Act.put, List.setIfInBounds_toArray, List.set_cons_zero, List.set_cons_succ])

      refine H_take (k := 5) (v := ?_) (by rfl) (by kernel_rfl) (by kernel_rfl) (by kernel_rfl) (by exact fun _ _ _ h => h) (by rfl) ?_ (by assumption) ?_
      rotate_left 1
      · intro w hSw
        (try dsimp only at hSw)
        go_simp
        (try with_reducible rfl)
      (try simp only [Act.put, List.setIfInBounds_toArray, List.set_cons_zero, List.set_cons_succ])
      refine H_take (k := 8) (v := ?_) (by rfl) (by kernel_rfl) (by kernel_rfl) (by kernel_rfl) (by exact fun _ _ _ h => h) (by rfl) ?_ (by assumption) ?_
      rotate_left 1
      · intro w hSw
        (try dsimp only at hSw)
        go_simp
        (try with_reducible rfl)
      (try simp only [Act.put, List.setIfInBounds_toArray, List.set_cons_zero, List.set_cons_succ])
      refine H_take (k := 9) (v := ?_) (by rfl) (by kernel_rfl) (by kernel_rfl) (by kernel_rfl) (by exact fun _ _ _ h => h) (by rfl) ?_ (by assumption) ?_
      rotate_left 1
      · intro w hSw
        (try dsimp only at hSw)
        go_simp
        (try with_reducible rfl)
      (try simp only [Act.put, List.setIfInBounds_toArray, List.set_cons_zero, List.set_cons_succ])
      refine H_take (k := 12) (v := ?_) (by rfl) (by kernel_rfl) (by kernel_rfl) (by kernel_rfl) (by exact fun _ _ _ h => h) (by rfl) ?_ (by assumption) ?_
      rotate_left 1
      · intro w hSw
        (try dsimp only at hSw)
        go_simp
        (try with_reducible rfl)
      (try simp only [Act.put, List.setIfInBounds_toArray, List.set_cons_zero, List.set_cons_succ])
      refine H_take (k := 13) (v := ?_) (by rfl) (by kernel_rfl) (by kernel_rfl) (by kernel_rfl) (by exact fun _ _ _ h => h) (by rfl) ?_ (by assumption) ?_
      rotate_left 1
      · intro w hSw
        (try dsimp only at hSw)
        go_simp
        (try with_reducible rfl)
      (try simp only [Act.put, List.setIfInBounds_toArray, List.set_cons_zero, List.set_cons_succ])
      refine H_run (k := 14) (by rfl) (by kernel_rfl) (by rfl) (fun K hK => ?_)
      go_simp
      refine (dWordsA_any _).mono ?_
      rintro e w3 ⟨rfl, hr3, hg3⟩
      have hgz := gr_none hHeld hg3
      refine hK _ _ hgz ?_
      clear hK K
      clear hHeld hg3
      have hHeld := hgz
      have HW3 := Lib.hid hr3
      clear hr3 hgz
      (try simp only [Act.put, List.setIfInBounds_toArray, List.set_cons_zero, List.set_cons_succ])

      have p1 : (0 : Int) ≤ ((j + 1 : Nat) : Int) := by omega
      have p2 : ((j + 1 : Nat) : Int) < 6 := by omega
      have p3 : (0 : Int) ≤ (j : Int) + 1 := by omega
      have p4 : (j : Int) + 1 < 6 := by omega
      have p5 : ((j : Int) + 1).toNat = j + 1 := by omega
      refine H_take (k := 17) (v := ?_) (by rfl) (by kernel_rfl) (by kernel_rfl) (by kernel_rfl) (by exact fun _ _ _ h => h) (by rfl) ?_ (by assumption) ?_
      rotate_left 1
      · intro w hSw
        (try dsimp only at hSw)
        go_simp
        (try with_reducible rfl)
      (try simp only [Act.put, List.setIfInBounds_toArray, List.set_cons_zero, List.set_cons_succ])
      have kw := HW3.out.at_ srow_len HWJ.out 0 _ rfl
      simp only [Nat.mul_one, Nat.add_zero, Nat.zero_add] at kw
      refine H_run (k := 18) (by rfl) (by kernel_rfl) (by rfl) (fun K hK => ?_)
      go_simp
      refine hK _ _ hHeld ?_
      clear hK K
      clear kw
      (try simp only [Act.put, List.setIfInBounds_toArray, List.set_cons_zero, List.set_cons_succ])
      refine H_take (k := 19) (v := ?_) (by rfl) (by kernel_rfl) (by kernel_rfl) (by kernel_rfl) (by exact fun _ _ _ h => h) (by rfl) ?_ (by assumption) ?_
      rotate_left 1
      · intro w hSw
        (try dsimp only at hSw)
        go_simp
        (try with_reducible rfl)
      (try simp only [Act.put, List.setIfInBounds_toArray, List.set_cons_zero, List.set_cons_succ])
      refine H_take (k := 20) (v := ?_) (by rfl) (by kernel_rfl) (by kernel_rfl) (by kernel_rfl) (by exact fun _ _ _ h => h) (by rfl) ?_ (by assumption) ?_
      rotate_left 1
      · intro w hSw
        (try dsimp only at hSw)
        go_simp
        (try with_reducible rfl)
      (try simp only [Act.put, List.setIfInBounds_toArray, List.set_cons_zero, List.set_cons_succ])
      refine H_take (k := 21) (v := ?_) (by rfl) (by kernel_rfl) (by kernel_rfl) (by kernel_rfl) (by exact fun _ _ _ h => h) (by rfl) ?_ (by assumption) ?_
      rotate_left 1
      · intro w hSw
        (try dsimp only at hSw)
        go_simp
        (try with_reducible rfl)
      (try simp only [Act.put, List.setIfInBounds_toArray, List.set_cons_zero, List.set_cons_succ])
      refine H_done (by kernel_rfl) ?_
      have HG3 := Lib.hid (gr_none HG.out hHeld)
      have HB3 := Lib.hid (HB.out.grown hHeld (by simp))
      clear hHeld p1 p2 p3 p4 p5 HW3 HB HG hX1 hX2 hX3 hX4 hX5 hX6 hS2 gX1 gX2 gX3 gX4 gX5 gX6 gS2 hHJ
      have k3 := HB3.out.cell 3
      have hLF := HLF.out
      have hLF2 : decide (z.kd = 1) = LF := by rw [← hLF]; rfl
      cases LF
      · have HLZ := Lib.hid (show acLine z = J4.data.toList ++ [10] by rw [HLN.out, if_neg (by simpa using hLF)])
        have y2 := HNL1.out
        have gS4 : ¬ 9223372036854775807 < S2.size + nl.size := by omega
        obtain ⟨S4, hS4⟩ : ∃ x, S2 ++ nl = x := ⟨_, rfl⟩
        have zS4 : S4.size = S2.size + nl.size := by rw [← hS4, appS2]
        have tS4 : S4.data.toList = S2.data.toList ++ nl.data.toList := by rw [← hS4, data_app]
        have HS4 := Lib.hid (show S4.data.toList = acTo l (k + 1) by rw [tS4, HS2.out, HNL.out, HTO.out, HLZ.out, List.append_assoc])
        clear tS4 zS4
        go_wp2_with fail
        go_roundw
        case rel => exact ⟨k + 1, S4, by omega, by go_num, rfl, HS4.out, HG3.out⟩
        case measure => simp [intOf]; omega
      · have HLZ := Lib.hid (show acLine z = J6.data.toList ++ [10] by rw [HLN.out, if_pos (by simpa using hLF)])
        go_upto_region 7 with (fail)
        obtain ⟨wq, rfl⟩ : ∃ v : World, v = w3 := ⟨_, rfl⟩
        refine H_begin (fun w' => wq.grownBy w' none) (by kernel_rfl) ?_
        have hHeld : wq.grownBy wq.drew none := gr_drew (gr_refl _ _)
        generalize wq.drew = wd at hHeld ⊢
        have y1 := HSP1.out
        have gY1 : ¬ 9223372036854775807 < sp.size + IL.size := by omega
        obtain ⟨Y1, hY1⟩ : ∃ x, sp ++ IL = x := ⟨_, rfl⟩
        have zY1 : Y1.size = sp.size + IL.size := by rw [← hY1, appS2]
        have tY1 : Y1.data.toList = sp.data.toList ++ IL.data.toList := by rw [← hY1, data_app]
        have gY2 : ¬ 9223372036854775807 < Y1.size + sp.size := by omega
        obtain ⟨Y2, hY2⟩ : ∃ x, Y1 ++ sp = x := ⟨_, rfl⟩
        have zY2 : Y2.size = Y1.size + sp.size := by rw [← hY2, appS2]
        have tY2 : Y2.data.toList = Y1.data.toList ++ sp.data.toList := by rw [← hY2, data_app]
        have gY3 : ¬ 9223372036854775807 < Y2.size + DF.size := by omega
        obtain ⟨Y3, hY3⟩ : ∃ x, Y2 ++ DF = x := ⟨_, rfl⟩
        have zY3 : Y3.size = Y2.size + DF.size := by rw [← hY3, appS2]
        have tY3 : Y3.data.toList = Y2.data.toList ++ DF.data.toList := by rw [← hY3, data_app]
        have gS3 : ¬ 9223372036854775807 < S2.size + Y3.size := by omega
        obtain ⟨S3, hS3⟩ : ∃ x, S2 ++ Y3 = x := ⟨_, rfl⟩
        have zS3 : S3.size = S2.size + Y3.size := by rw [← hS3, appS2]
        have tS3 : S3.data.toList = S2.data.toList ++ Y3.data.toList := by rw [← hS3, data_app]
        have HS3 := Lib.hid (show S3.data.toList = acTo l k ++ J6.data.toList by
          rw [tS3, tY3, tY2, tY1, HSP.out, HS2.out, ← HJ6.out, jn6_eq, ← HJ4.out]
          simp only [List.append_assoc])
        have bS3 : S3.size ≤ 4100000 := by omega
        clear tY1 tY2 tY3 tS3 y1 k3 hLF hLF2 zY1 zY2 zY3 zS3
        have HB := HB3; have HG := HG3
        refine H_take (k := 0) (v := ?_) (by rfl) (by kernel_rfl) (by kernel_rfl) (by kernel_rfl) (by exact fun _ _ _ h => h) (by rfl) ?_ (by assumption) ?_
        rotate_left 1
        · intro w hSw
          (try dsimp only at hSw)
          go_simp
          (try with_reducible rfl)
        (try simp only [Act.put, List.setIfInBounds_toArray, List.set_cons_zero, List.set_cons_succ])
        refine H_take (k := 1) (v := ?_) (by rfl) (by kernel_rfl) (by kernel_rfl) (by kernel_rfl) (by exact fun _ _ _ h => h) (by rfl) ?_ (by assumption) ?_
        rotate_left 1
        · intro w hSw
          (try dsimp only at hSw)
          go_simp
          (try with_reducible rfl)
        (try simp only [Act.put, List.setIfInBounds_toArray, List.set_cons_zero, List.set_cons_succ])
        refine H_take (k := 2) (v := ?_) (by rfl) (by kernel_rfl) (by kernel_rfl) (by kernel_rfl) (by exact fun _ _ _ h => h) (by rfl) ?_ (by assumption) ?_
        rotate_left 1
        · intro w' hSw
          have kc := (HB.out.grown hSw (by simp)).cell 4
          go_simp
          (try with_reducible rfl)
        (try simp only [Act.put, List.setIfInBounds_toArray, List.set_cons_zero, List.set_cons_succ])
        refine H_take (k := 7) (v := ?_) (by rfl) (by kernel_rfl) (by kernel_rfl) (by kernel_rfl) (by exact fun _ _ _ h => h) (by rfl) ?_ (by assumption) ?_
        rotate_left 1
        · intro w hSw
          (try dsimp only at hSw)
          go_simp
          (try with_reducible rfl)
        (try simp only [Act.put, List.setIfInBounds_toArray, List.set_cons_zero, List.set_cons_succ])
        refine H_take (k := 8) (v := ?_) (by rfl) (by kernel_rfl) (by kernel_rfl) (by kernel_rfl) (by exact fun _ _ _ h => h) (by rfl) ?_ (by assumption) ?_
        rotate_left 1
        · intro w' hSw
          have kc := (HB.out.grown hSw (by simp)).cell 5
          go_simp
          (try with_reducible rfl)
        (try simp only [Act.put, List.setIfInBounds_toArray, List.set_cons_zero, List.set_cons_succ])
        obtain ⟨b7, hb7⟩ : ∃ b, wd.heap.size = b := ⟨_, rfl⟩
        obtain ⟨wi, hwi⟩ : ∃ v, wd.alloc (.cells #[.int .i64 z.lg] 3) = v := ⟨_, rfl⟩
        have hga : wd.grownBy wi none := by rw [← hwi]; exact gr_alloc (gr_refl _ _) _
        have HRI := Lib.hid (show Recs nrow 1 wi b7 (some ⟨b7, 0, none⟩) 1 1 [z.lg] from ⟨by rw [nrow_map, ← hwi, ← hb7]; exact Reads.blk (Blk.new _ _ _) 1 1 rfl, rfl⟩)
        have hgz := gr_none hHeld hga
        refine H_run (k := 3) (by rfl) (by kernel_rfl) (by rfl) (fun K hK => ?_)
        go_simp
        (try rw [hwi])
        (try rw [hb7])
        refine hK _ _ hgz ?_
        clear hK K
        clear hHeld hwi hb7 hga
        have hHeld := hgz
        clear hgz
        (try simp only [Act.put, List.setIfInBounds_toArray, List.set_cons_zero, List.set_cons_succ])
        refine H_run (k := 4) (by rfl) (by kernel_rfl) (by rfl) (fun K hK => ?_)
        go_simp
        refine (numbers_any b7 (some ⟨b7, 0, none⟩) 1 1 [z.lg] _ HRI.out (by omega) (by omega) (fun x hx => by rw [List.mem_singleton.1 hx]; omega) (HPW.out.grown (gr_none HG.out hHeld)) (by rw [show [z.lg].map itS = [itS z.lg] from rfl, jn_one, HIL.out]; omega)).mono ?_
        rintro e wx ⟨rfl, hgx⟩
        rw [show [z.lg].map itS = [itS z.lg] from rfl, jn_one, HIL.out]
        have hgz := gr_none hHeld hgx
        refine hK _ _ hgz ?_
        clear hK K
        clear hHeld hgx HRI
        have hHeld := hgz
        clear hgz
        (try simp only [Act.put, List.setIfInBounds_toArray, List.set_cons_zero, List.set_cons_succ])

        refine H_take (k := 5) (v := ?_) (by rfl) (by kernel_rfl) (by kernel_rfl) (by kernel_rfl) (by exact fun _ _ _ h => h) (by rfl) ?_ (by assumption) ?_
        rotate_left 1
        · intro w hSw
          (try dsimp only at hSw)
          go_simp
          (try with_reducible rfl)
        (try simp only [Act.put, List.setIfInBounds_toArray, List.set_cons_zero, List.set_cons_succ])
        refine H_take (k := 6) (v := ?_) (by rfl) (by kernel_rfl) (by kernel_rfl) (by kernel_rfl) (by exact fun _ _ _ h => h) (by rfl) ?_ (by assumption) ?_
        rotate_left 1
        · intro w hSw
          (try dsimp only at hSw)
          go_simp
          (try with_reducible rfl)
        (try simp only [Act.put, List.setIfInBounds_toArray, List.set_cons_zero, List.set_cons_succ])
        refine H_run (k := 9) (by rfl) (by kernel_rfl) (by rfl) (fun K hK => ?_)
        go_simp
        refine (dash_any z.frm _).mono ?_
        rintro e wx ⟨rfl, rfl⟩
        rw [HDF.out]
        refine hK _ _ hHeld ?_
        clear hK K
        (try simp only [Act.put, List.setIfInBounds_toArray, List.set_cons_zero, List.set_cons_succ])

        refine H_take (k := 10) (v := ?_) (by rfl) (by kernel_rfl) (by kernel_rfl) (by kernel_rfl) (by exact fun _ _ _ h => h) (by rfl) ?_ (by assumption) ?_
        rotate_left 1
        · intro w hSw
          (try dsimp only at hSw)
          go_simp
          (try with_reducible rfl)
        (try simp only [Act.put, List.setIfInBounds_toArray, List.set_cons_zero, List.set_cons_succ])
        refine H_take (k := 11) (v := ?_) (by rfl) (by kernel_rfl) (by kernel_rfl) (by kernel_rfl) (by exact fun _ _ _ h => h) (by rfl) ?_ (by assumption) ?_
        rotate_left 1
        · intro w hSw
          (try dsimp only at hSw)
          go_simp
          (try with_reducible rfl)
        (try simp only [Act.put, List.setIfInBounds_toArray, List.set_cons_zero, List.set_cons_succ])
        refine H_take (k := 12) (v := ?_) (by rfl) (by kernel_rfl) (by kernel_rfl) (by kernel_rfl) (by exact fun _ _ _ h => h) (by rfl) ?_ (by assumption) ?_
        rotate_left 1
        · intro w hSw
          (try dsimp only at hSw)
          go_simp
          (try with_reducible rfl)
        (try simp only [Act.put, List.setIfInBounds_toArray, List.set_cons_zero, List.set_cons_succ])
        refine H_done (by kernel_rfl) ?_
        have HG4 := Lib.hid (gr_none HG.out hHeld)
        clear hHeld HB HG HB3 HG3 hY1 hY2 hY3 hS3 gY1 gY2 gY3 gS3
        have y2 := HNL1.out
        have gS4 : ¬ 9223372036854775807 < S3.size + nl.size := by omega
        obtain ⟨S4, hS4⟩ : ∃ x, S3 ++ nl = x := ⟨_, rfl⟩
        have zS4 : S4.size = S3.size + nl.size := by rw [← hS4, appS2]
        have tS4 : S4.data.toList = S3.data.toList ++ nl.data.toList := by rw [← hS4, data_app]
        have HS4 := Lib.hid (show S4.data.toList = acTo l (k + 1) by rw [tS4, HS3.out, HNL.out, HTO.out, HLZ.out, List.append_assoc])
        clear tS4 zS4
        go_wp2_with fail
        go_roundw
        case rel => exact ⟨k + 1, S4, by omega, by go_num, rfl, HS4.out, HG4.out⟩
        case measure => simp [intOf]; omega
    · obtain rfl : k = n := by omega
      have HST := Lib.hid (show (⟨(acTo l k).toArray⟩ : ByteArray) = s by rw [← HSD.out])
      go_wp2_with fail
      go_ret
      exact ⟨by rw [HST.out]; try rfl, HG.out⟩
end Go.Proofs.YtgogiljplnninaaGreatDoor

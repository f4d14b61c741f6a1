/- Contracts of better and agent of the program's player. Conditions: a player that is played. -/
import Derived.Test.YtpildcnoghojpaaGreatDoorPl2
namespace Go.Proofs.YtpildcnoghojpaaGreatDoor
open Go.RowKit

set_option maxHeartbeats 8000000 in
set_option maxRecDepth 100000 in
theorem pbetter_any (R : PlC) (s : StyV) (m n : Nat) (last : ByteArray) (b1 b2 : Nat) (a1 a2 : AgV) (x1 x2 : DkV) (skill : ByteArray) (w : World) (hp : PpBlk w R s m n last) (h1 : DkBlk w b1 a1 x1) (h2 : DkBlk w b2 a2 x2) (ha1 : AgOk w 0 a1) (ha2 : AgOk w 0 a2) :
    Calls Tryz.prog 109 #[.pointer (some ⟨R.pb, 0, none⟩), .pointer (some ⟨b1, 0, none⟩), .pointer (some ⟨b2, 0, none⟩), .string skill] w (RetV (.bool (betterP s.kind a1 x1 a2 x2 last skill)) w) := by
  have HV := Lib.hid (show betterP s.kind a1 x1 a2 x2 last skill = if s.kind = 1 then decide (sinceP a1 x1 < sinceP a2 x2) else if s.kind = 2 then decide (x1.n < x2.n) else if s.kind = 3 then decide (lvl a2.sk skill < lvl a1.sk skill) else !(leS a1.key last) && leS a2.key last from rfl)
  obtain ⟨pb, pD, pdc, pW, pwc, pdi, pwi⟩ := R
  have HP := Lib.hid (show Blk w pb 113 #[.int .i64 s.kind, .int .i64 s.age, .int .i64 s.say, .slice pD m pdc, .slice pW n pwc, .string last] from hp)
  have HD1 := Lib.hid h1; have HD2 := Lib.hid h2
  have H1 := Lib.hid (show Blk w b1 116 #[.string a1.key, .slice a1.sA a1.sn a1.sc, .int .i64 a1.fr, .int .i64 a1.til, .slice a1.pA a1.pn a1.pc, .int .i64 a1.wrap, .int .i64 x1.tk, .int .i64 x1.en, .int .i64 x1.n] from h1)
  have H2 := Lib.hid (show Blk w b2 116 #[.string a2.key, .slice a2.sA a2.sn a2.sc, .int .i64 a2.fr, .int .i64 a2.til, .slice a2.pA a2.pn a2.pc, .int .i64 a2.wrap, .int .i64 x2.tk, .int .i64 x2.en, .int .i64 x2.n] from h2)
  have HA1 := Lib.hid ha1; have HA2 := Lib.hid ha2
  have p0 := HP.out.cell 0
  clear hp h1 h2 ha1 ha2
  go_enter Tryz.func109, Tryz.ntmps109
  by_cases k1 : s.kind = 1
  · have d1 : (s.kind == 1) = true := by simpa using k1
    obtain ⟨S1, hS1⟩ : ∃ S, sinceP a1 x1 = S := ⟨_, rfl⟩
    obtain ⟨S2, hS2⟩ : ∃ S, sinceP a2 x2 = S := ⟨_, rfl⟩
    rw [if_pos k1, hS1, hS2] at HV
    have HS1 := Lib.hid hS1; have HS2 := Lib.hid hS2
    clear k1 hS1 hS2
    go_wp2_with fail
    refine (since_any b1 a1 x1 _ HD1.out).mono ?_
    rintro e w3 ⟨rfl, hg3⟩
    rw [HS1.out]
    go_wp2_with fail
    refine (since_any b2 a2 x2 _ (show Blk w3 b2 116 _ from H2.out.grown hg3 (by simp))).mono ?_
    rintro e w4 ⟨rfl, hg4⟩
    rw [HS2.out]
    have HG4 := Lib.hid (gr_none hg3 hg4)
    clear hg3 hg4
    go_wp2_with fail
    go_ret
    exact ⟨by rw [HV.out]; try rfl, HG4.out⟩
  · have d1 : (s.kind == 1) = false := by simpa using k1
    rw [if_neg k1] at HV
    clear k1
    by_cases k2 : s.kind = 2
    · have d2 : (s.kind == 2) = true := by simpa using k2
      rw [if_pos k2] at HV
      have e1 := H1.out.cell 8
      have e2 := H2.out.cell 8
      clear k2
      go_wp2_with fail
      go_quiet (fail)
      go_wp2_with fail
      go_ret
      exact ⟨by rw [HV.out]; try rfl, gr_drewN (gr_refl _ _) _⟩
    · have d2 : (s.kind == 2) = false := by simpa using k2
      rw [if_neg k2] at HV
      clear k2
      by_cases k3 : s.kind = 3
      · have d3 : (s.kind == 3) = true := by simpa using k3
        obtain ⟨S1, hS1⟩ : ∃ S, lvl a1.sk skill = S := ⟨_, rfl⟩
        obtain ⟨S2, hS2⟩ : ∃ S, lvl a2.sk skill = S := ⟨_, rfl⟩
        rw [if_pos k3, hS1, hS2] at HV
        have HS1 := Lib.hid hS1; have HS2 := Lib.hid hS2
        clear k3 hS1 hS2
        go_upto_region 7 with (fail)
        refine H_begin (fun w' => w.grownBy w' none) (by kernel_rfl) ?_
        have hHeld : w.grownBy w.drew none := gr_drew (gr_refl _ _)
        refine H_take (k := 0) (v := ?_) (by rfl) (by kernel_rfl) (by kernel_rfl) (by kernel_rfl) (by exact fun _ _ _ h => h) (by rfl) ?_ (by assumption) ?_
        rotate_left 1
        · intro w hSw
          (try dsimp only at hSw)
          go_simp
          (try with_reducible rfl)
        (try simp only [Act.put, List.setIfInBounds_toArray, List.set_cons_zero, List.set_cons_succ])
        refine H_take (k := 1) (v := ?_) (by rfl) (by kernel_rfl) (by kernel_rfl) (by kernel_rfl) (by exact fun _ _ _ h => h) (by rfl) ?_ (by assumption) ?_
        rotate_left 1
        · intro w hSw
          (try dsimp only at hSw)
          go_simp
          (try with_reducible rfl)
        (try simp only [Act.put, List.setIfInBounds_toArray, List.set_cons_zero, List.set_cons_succ])
        refine H_take (k := 2) (v := ?_) (by rfl) (by kernel_rfl) (by kernel_rfl) (by kernel_rfl) (by exact fun _ _ _ h => h) (by rfl) ?_ (by assumption) ?_
        rotate_left 1
        · intro w hSw
          (try dsimp only at hSw)
          go_simp
          (try with_reducible rfl)
        (try simp only [Act.put, List.setIfInBounds_toArray, List.set_cons_zero, List.set_cons_succ])
        refine H_take (k := 3) (v := .agg #[.string a1.key, .slice a1.sA a1.sn a1.sc, .int .i64 a1.fr, .int .i64 a1.til, .slice a1.pA a1.pn a1.pc, .int .i64 a1.wrap]) (by rfl) (by kernel_rfl) (by kernel_rfl) (by kernel_rfl) (by exact fun _ _ _ h => h) (by rfl) (fun w' hSw => exec_ldr Tryz.agT _ rfl _ rfl [.string a1.key, .slice a1.sA a1.sn a1.sc, .int .i64 a1.fr, .int .i64 a1.til, .slice a1.pA a1.pn a1.pc, .int .i64 a1.wrap] (fun j u hu => by rw [add_mk]; exact (desk_ag (H1.out.grown hSw (by simp))) j u hu) rfl) (by assumption) ?_
        (try simp only [Act.put, List.setIfInBounds_toArray, List.set_cons_zero, List.set_cons_succ])
        refine H_take (k := 4) (v := ?_) (by rfl) (by kernel_rfl) (by kernel_rfl) (by kernel_rfl) (by exact fun _ _ _ h => h) (by rfl) ?_ (by assumption) ?_
        rotate_left 1
        · intro w hSw
          (try dsimp only at hSw)
          go_simp
          (try with_reducible rfl)
        (try simp only [Act.put, List.setIfInBounds_toArray, List.set_cons_zero, List.set_cons_succ])
        refine H_take (k := 6) (v := ?_) (by rfl) (by kernel_rfl) (by kernel_rfl) (by kernel_rfl) (by exact fun _ _ _ h => h) (by rfl) ?_ (by assumption) ?_
        rotate_left 1
        · intro w hSw
          (try dsimp only at hSw)
          go_simp
          (try with_reducible rfl)
        (try simp only [Act.put, List.setIfInBounds_toArray, List.set_cons_zero, List.set_cons_succ])
        refine H_take (k := 7) (v := ?_) (by rfl) (by kernel_rfl) (by kernel_rfl) (by kernel_rfl) (by exact fun _ _ _ h => h) (by rfl) ?_ (by assumption) ?_
        rotate_left 1
        · intro w hSw
          (try dsimp only at hSw)
          go_simp
          (try with_reducible rfl)
        (try simp only [Act.put, List.setIfInBounds_toArray, List.set_cons_zero, List.set_cons_succ])
        refine H_take (k := 8) (v := ?_) (by rfl) (by kernel_rfl) (by kernel_rfl) (by kernel_rfl) (by exact fun _ _ _ h => h) (by rfl) ?_ (by assumption) ?_
        rotate_left 1
        · intro w hSw
          (try dsimp only at hSw)
          go_simp
          (try with_reducible rfl)
        (try simp only [Act.put, List.setIfInBounds_toArray, List.set_cons_zero, List.set_cons_succ])
        refine H_take (k := 9) (v := .agg #[.string a2.key, .slice a2.sA a2.sn a2.sc, .int .i64 a2.fr, .int .i64 a2.til, .slice a2.pA a2.pn a2.pc, .int .i64 a2.wrap]) (by rfl) (by kernel_rfl) (by kernel_rfl) (by kernel_rfl) (by exact fun _ _ _ h => h) (by rfl) (fun w' hSw => exec_ldr Tryz.agT _ rfl _ rfl [.string a2.key, .slice a2.sA a2.sn a2.sc, .int .i64 a2.fr, .int .i64 a2.til, .slice a2.pA a2.pn a2.pc, .int .i64 a2.wrap] (fun j u hu => by rw [add_mk]; exact (desk_ag (H2.out.grown hSw (by simp))) j u hu) rfl) (by assumption) ?_
        (try simp only [Act.put, List.setIfInBounds_toArray, List.set_cons_zero, List.set_cons_succ])
        refine H_take (k := 10) (v := ?_) (by rfl) (by kernel_rfl) (by kernel_rfl) (by kernel_rfl) (by exact fun _ _ _ h => h) (by rfl) ?_ (by assumption) ?_
        rotate_left 1
        · intro w hSw
          (try dsimp only at hSw)
          go_simp
          (try with_reducible rfl)
        (try simp only [Act.put, List.setIfInBounds_toArray, List.set_cons_zero, List.set_cons_succ])
        refine H_run (k := 5) (by rfl) (by kernel_rfl) (by rfl) (fun K hK => ?_)
        go_simp
        refine (level_any 0 a1 skill _ (HA1.out.grown hHeld (fun g e => by cases e))).mono ?_
        rintro e w5 ⟨rfl, hg5⟩
        rw [HS1.out]
        have hg := gr_none hHeld hg5
        refine hK _ _ hg ?_
        clear hK K hHeld hg5
        have hHeld := hg
        clear hg
        (try simp only [Act.put, List.setIfInBounds_toArray, List.set_cons_zero, List.set_cons_succ])
        refine H_run (k := 11) (by rfl) (by kernel_rfl) (by rfl) (fun K hK => ?_)
        go_simp
        refine (level_any 0 a2 skill _ (HA2.out.grown hHeld (fun g e => by cases e))).mono ?_
        rintro e w6 ⟨rfl, hg6⟩
        rw [HS2.out]
        have hg := gr_none hHeld hg6
        refine hK _ _ hg ?_
        clear hK K hHeld hg6
        have hHeld := hg
        clear hg
        (try simp only [Act.put, List.setIfInBounds_toArray, List.set_cons_zero, List.set_cons_succ])
        refine H_take (k := 12) (v := ?_) (by rfl) (by kernel_rfl) (by kernel_rfl) (by kernel_rfl) (by exact fun _ _ _ h => h) (by rfl) ?_ (by assumption) ?_
        rotate_left 1
        · intro w hSw
          (try dsimp only at hSw)
          go_simp
          (try with_reducible rfl)
        (try simp only [Act.put, List.setIfInBounds_toArray, List.set_cons_zero, List.set_cons_succ])
        refine H_take (k := 13) (v := ?_) (by rfl) (by kernel_rfl) (by kernel_rfl) (by kernel_rfl) (by exact fun _ _ _ h => h) (by rfl) ?_ (by assumption) ?_
        rotate_left 1
        · intro w hSw
          (try dsimp only at hSw)
          go_simp
          (try with_reducible rfl)
        (try simp only [Act.put, List.setIfInBounds_toArray, List.set_cons_zero, List.set_cons_succ])
        refine H_done (by kernel_rfl) ?_
        go_wp2_with fail
        go_ret
        exact ⟨by rw [HV.out]; try rfl, hHeld⟩
      · have d3 : (s.kind == 3) = false := by simpa using k3
        rw [if_neg k3] at HV
        clear k3
        obtain ⟨G, hG⟩ : ∃ G, (Op.bytesLess a1.key.toList last.toList || a1.key.toList == last.toList) = G := ⟨_, rfl⟩
        obtain ⟨L, hL⟩ : ∃ L, (Op.bytesLess a2.key.toList last.toList || a2.key.toList == last.toList) = L := ⟨_, rfl⟩
        rw [show leS a1.key last = G from hG, show leS a2.key last = L from hL] at HV
        go_upto_region 8 with (fail)
        refine H_begin (fun w' => w.grownBy w' none) (by kernel_rfl) ?_
        have hHeld : w.grownBy w.drew none := gr_drew (gr_refl _ _)
        refine H_take (k := 0) (v := ?_) (by rfl) (by kernel_rfl) (by kernel_rfl) (by kernel_rfl) (by exact fun _ _ _ h => h) (by rfl) ?_ (by assumption) ?_
        rotate_left 1
        · intro w hSw
          (try dsimp only at hSw)
          go_simp
          (try with_reducible rfl)
        (try simp only [Act.put, List.setIfInBounds_toArray, List.set_cons_zero, List.set_cons_succ])
        refine H_take (k := 1) (v := ?_) (by rfl) (by kernel_rfl) (by kernel_rfl) (by kernel_rfl) (by exact fun _ _ _ h => h) (by rfl) ?_ (by assumption) ?_
        rotate_left 1
        · intro w hSw
          (try dsimp only at hSw)
          go_simp
          (try with_reducible rfl)
        (try simp only [Act.put, List.setIfInBounds_toArray, List.set_cons_zero, List.set_cons_succ])
        refine H_take (k := 2) (v := ?_) (by rfl) (by kernel_rfl) (by kernel_rfl) (by kernel_rfl) (by exact fun _ _ _ h => h) (by rfl) ?_ (by assumption) ?_
        rotate_left 1
        · intro w hSw
          (try dsimp only at hSw)
          go_simp
          (try with_reducible rfl)
        (try simp only [Act.put, List.setIfInBounds_toArray, List.set_cons_zero, List.set_cons_succ])
        refine H_take (k := 3) (v := ?_) (by rfl) (by kernel_rfl) (by kernel_rfl) (by kernel_rfl) (by exact fun _ _ _ h => h) (by rfl) ?_ (by assumption) ?_
        rotate_left 1
        · intro w hSw
          (try dsimp only at hSw)
          go_simp
          (try with_reducible rfl)
        (try simp only [Act.put, List.setIfInBounds_toArray, List.set_cons_zero, List.set_cons_succ])
        refine H_take (k := 4) (v := ?_) (by rfl) (by kernel_rfl) (by kernel_rfl) (by kernel_rfl) (by exact fun _ _ _ h => h) (by rfl) ?_ (by assumption) ?_
        rotate_left 1
        · intro w' hSw
          have kc := (H1.out.grown hSw (by simp)).cell 0
          go_simp
          (try with_reducible rfl)
        (try simp only [Act.put, List.setIfInBounds_toArray, List.set_cons_zero, List.set_cons_succ])
        refine H_take (k := 5) (v := ?_) (by rfl) (by kernel_rfl) (by kernel_rfl) (by kernel_rfl) (by exact fun _ _ _ h => h) (by rfl) ?_ (by assumption) ?_
        rotate_left 1
        · intro w hSw
          (try dsimp only at hSw)
          go_simp
          (try with_reducible rfl)
        (try simp only [Act.put, List.setIfInBounds_toArray, List.set_cons_zero, List.set_cons_succ])
        refine H_take (k := 6) (v := ?_) (by rfl) (by kernel_rfl) (by kernel_rfl) (by kernel_rfl) (by exact fun _ _ _ h => h) (by rfl) ?_ (by assumption) ?_
        rotate_left 1
        · intro w hSw
          (try dsimp only at hSw)
          go_simp
          (try with_reducible rfl)
        (try simp only [Act.put, List.setIfInBounds_toArray, List.set_cons_zero, List.set_cons_succ])
        refine H_take (k := 7) (v := ?_) (by rfl) (by kernel_rfl) (by kernel_rfl) (by kernel_rfl) (by exact fun _ _ _ h => h) (by rfl) ?_ (by assumption) ?_
        rotate_left 1
        · intro w hSw
          (try dsimp only at hSw)
          go_simp
          (try with_reducible rfl)
        (try simp only [Act.put, List.setIfInBounds_toArray, List.set_cons_zero, List.set_cons_succ])
        refine H_take (k := 8) (v := ?_) (by rfl) (by kernel_rfl) (by kernel_rfl) (by kernel_rfl) (by exact fun _ _ _ h => h) (by rfl) ?_ (by assumption) ?_
        rotate_left 1
        · intro w' hSw
          have kc := (HP.out.grown hSw (by simp)).cell 5
          go_simp
          (try with_reducible rfl)
        (try simp only [Act.put, List.setIfInBounds_toArray, List.set_cons_zero, List.set_cons_succ])
        refine H_take (k := 9) (v := ?_) (by rfl) (by kernel_rfl) (by kernel_rfl) (by kernel_rfl) (by exact fun _ _ _ h => h) (by rfl) ?_ (by assumption) ?_
        rotate_left 1
        · intro w hSw
          (try dsimp only at hSw)
          go_simp
          (try with_reducible rfl)
        (try simp only [Act.put, List.setIfInBounds_toArray, List.set_cons_zero, List.set_cons_succ])
        refine H_take (k := 10) (v := ?_) (by rfl) (by kernel_rfl) (by kernel_rfl) (by kernel_rfl) (by exact fun _ _ _ h => h) (by rfl) ?_ (by assumption) ?_
        rotate_left 1
        · intro w hSw
          (try dsimp only at hSw)
          go_simp
          (try with_reducible rfl)
        (try simp only [Act.put, List.setIfInBounds_toArray, List.set_cons_zero, List.set_cons_succ])
        (try rw [hG])
        cases G
        · refine H_take (k := 11) (v := ?_) (by rfl) (by kernel_rfl) (by kernel_rfl) (by kernel_rfl) (by exact fun _ _ _ h => h) (by rfl) ?_ (by assumption) ?_
          rotate_left 1
          · intro w hSw
            (try dsimp only at hSw)
            go_simp
            (try with_reducible rfl)
          (try simp only [Act.put, List.setIfInBounds_toArray, List.set_cons_zero, List.set_cons_succ])
          refine H_take (k := 12) (v := ?_) (by rfl) (by kernel_rfl) (by kernel_rfl) (by kernel_rfl) (by exact fun _ _ _ h => h) (by rfl) ?_ (by assumption) ?_
          rotate_left 1
          · intro w hSw
            (try dsimp only at hSw)
            go_simp
            (try with_reducible rfl)
          (try simp only [Act.put, List.setIfInBounds_toArray, List.set_cons_zero, List.set_cons_succ])
          refine H_take (k := 13) (v := ?_) (by rfl) (by kernel_rfl) (by kernel_rfl) (by kernel_rfl) (by exact fun _ _ _ h => h) (by rfl) ?_ (by assumption) ?_
          rotate_left 1
          · intro w hSw
            (try dsimp only at hSw)
            go_simp
            (try with_reducible rfl)
          (try simp only [Act.put, List.setIfInBounds_toArray, List.set_cons_zero, List.set_cons_succ])
          refine H_take (k := 14) (v := ?_) (by rfl) (by kernel_rfl) (by kernel_rfl) (by kernel_rfl) (by exact fun _ _ _ h => h) (by rfl) ?_ (by assumption) ?_
          rotate_left 1
          · intro w hSw
            (try dsimp only at hSw)
            go_simp
            (try with_reducible rfl)
          (try simp only [Act.put, List.setIfInBounds_toArray, List.set_cons_zero, List.set_cons_succ])
          refine H_take (k := 15) (v := ?_) (by rfl) (by kernel_rfl) (by kernel_rfl) (by kernel_rfl) (by exact fun _ _ _ h => h) (by rfl) ?_ (by assumption) ?_
          rotate_left 1
          · intro w' hSw
            have kc := (H2.out.grown hSw (by simp)).cell 0
            go_simp
            (try with_reducible rfl)
          (try simp only [Act.put, List.setIfInBounds_toArray, List.set_cons_zero, List.set_cons_succ])
          refine H_take (k := 16) (v := ?_) (by rfl) (by kernel_rfl) (by kernel_rfl) (by kernel_rfl) (by exact fun _ _ _ h => h) (by rfl) ?_ (by assumption) ?_
          rotate_left 1
          · intro w hSw
            (try dsimp only at hSw)
            go_simp
            (try with_reducible rfl)
          (try simp only [Act.put, List.setIfInBounds_toArray, List.set_cons_zero, List.set_cons_succ])
          refine H_take (k := 17) (v := ?_) (by rfl) (by kernel_rfl) (by kernel_rfl) (by kernel_rfl) (by exact fun _ _ _ h => h) (by rfl) ?_ (by assumption) ?_
          rotate_left 1
          · intro w hSw
            (try dsimp only at hSw)
            go_simp
            (try with_reducible rfl)
          (try simp only [Act.put, List.setIfInBounds_toArray, List.set_cons_zero, List.set_cons_succ])
          refine H_take (k := 18) (v := ?_) (by rfl) (by kernel_rfl) (by kernel_rfl) (by kernel_rfl) (by exact fun _ _ _ h => h) (by rfl) ?_ (by assumption) ?_
          rotate_left 1
          · intro w hSw
            (try dsimp only at hSw)
            go_simp
            (try with_reducible rfl)
          (try simp only [Act.put, List.setIfInBounds_toArray, List.set_cons_zero, List.set_cons_succ])
          refine H_take (k := 19) (v := ?_) (by rfl) (by kernel_rfl) (by kernel_rfl) (by kernel_rfl) (by exact fun _ _ _ h => h) (by rfl) ?_ (by assumption) ?_
          rotate_left 1
          · intro w' hSw
            have kc := (HP.out.grown hSw (by simp)).cell 5
            go_simp
            (try with_reducible rfl)
          (try simp only [Act.put, List.setIfInBounds_toArray, List.set_cons_zero, List.set_cons_succ])
          refine H_take (k := 20) (v := ?_) (by rfl) (by kernel_rfl) (by kernel_rfl) (by kernel_rfl) (by exact fun _ _ _ h => h) (by rfl) ?_ (by assumption) ?_
          rotate_left 1
          · intro w hSw
            (try dsimp only at hSw)
            go_simp
            (try with_reducible rfl)
          (try simp only [Act.put, List.setIfInBounds_toArray, List.set_cons_zero, List.set_cons_succ])
          refine H_take (k := 21) (v := ?_) (by rfl) (by kernel_rfl) (by kernel_rfl) (by kernel_rfl) (by exact fun _ _ _ h => h) (by rfl) ?_ (by assumption) ?_
          rotate_left 1
          · intro w hSw
            (try dsimp only at hSw)
            go_simp
            (try with_reducible rfl)
          (try simp only [Act.put, List.setIfInBounds_toArray, List.set_cons_zero, List.set_cons_succ])
          refine H_take (k := 22) (v := ?_) (by rfl) (by kernel_rfl) (by kernel_rfl) (by kernel_rfl) (by exact fun _ _ _ h => h) (by rfl) ?_ (by assumption) ?_
          rotate_left 1
          · intro w hSw
            (try dsimp only at hSw)
            go_simp
            (try with_reducible rfl)
          (try simp only [Act.put, List.setIfInBounds_toArray, List.set_cons_zero, List.set_cons_succ])
          refine H_done (by kernel_rfl) ?_
          (try rw [hL])
          go_wp2_with fail
          go_ret
          exact ⟨by rw [HV.out]; try rfl, hHeld⟩
        · refine H_skip (k := 11) (by rfl) (by kernel_rfl) (by kernel_rfl) (by kernel_rfl) (by exact fun _ _ _ h => h) (by rfl) (by assumption) ?_
          (try simp only [Act.put, List.setIfInBounds_toArray, List.set_cons_zero, List.set_cons_succ])
          refine H_skip (k := 12) (by rfl) (by kernel_rfl) (by kernel_rfl) (by kernel_rfl) (by exact fun _ _ _ h => h) (by rfl) (by assumption) ?_
          (try simp only [Act.put, List.setIfInBounds_toArray, List.set_cons_zero, List.set_cons_succ])
          refine H_skip (k := 13) (by rfl) (by kernel_rfl) (by kernel_rfl) (by kernel_rfl) (by exact fun _ _ _ h => h) (by rfl) (by assumption) ?_
          (try simp only [Act.put, List.setIfInBounds_toArray, List.set_cons_zero, List.set_cons_succ])
          refine H_skip (k := 14) (by rfl) (by kernel_rfl) (by kernel_rfl) (by kernel_rfl) (by exact fun _ _ _ h => h) (by rfl) (by assumption) ?_
          (try simp only [Act.put, List.setIfInBounds_toArray, List.set_cons_zero, List.set_cons_succ])
          refine H_skip (k := 15) (by rfl) (by kernel_rfl) (by kernel_rfl) (by kernel_rfl) (by exact fun _ _ _ h => h) (by rfl) (by assumption) ?_
          (try simp only [Act.put, List.setIfInBounds_toArray, List.set_cons_zero, List.set_cons_succ])
          refine H_skip (k := 16) (by rfl) (by kernel_rfl) (by kernel_rfl) (by kernel_rfl) (by exact fun _ _ _ h => h) (by rfl) (by assumption) ?_
          (try simp only [Act.put, List.setIfInBounds_toArray, List.set_cons_zero, List.set_cons_succ])
          refine H_skip (k := 17) (by rfl) (by kernel_rfl) (by kernel_rfl) (by kernel_rfl) (by exact fun _ _ _ h => h) (by rfl) (by assumption) ?_
          (try simp only [Act.put, List.setIfInBounds_toArray, List.set_cons_zero, List.set_cons_succ])
          refine H_skip (k := 18) (by rfl) (by kernel_rfl) (by kernel_rfl) (by kernel_rfl) (by exact fun _ _ _ h => h) (by rfl) (by assumption) ?_
          (try simp only [Act.put, List.setIfInBounds_toArray, List.set_cons_zero, List.set_cons_succ])
          refine H_skip (k := 19) (by rfl) (by kernel_rfl) (by kernel_rfl) (by kernel_rfl) (by exact fun _ _ _ h => h) (by rfl) (by assumption) ?_
          (try simp only [Act.put, List.setIfInBounds_toArray, List.set_cons_zero, List.set_cons_succ])
          refine H_skip (k := 20) (by rfl) (by kernel_rfl) (by kernel_rfl) (by kernel_rfl) (by exact fun _ _ _ h => h) (by rfl) (by assumption) ?_
          (try simp only [Act.put, List.setIfInBounds_toArray, List.set_cons_zero, List.set_cons_succ])
          refine H_take (k := 21) (v := ?_) (by rfl) (by kernel_rfl) (by kernel_rfl) (by kernel_rfl) (by exact fun _ _ _ h => h) (by rfl) ?_ (by assumption) ?_
          rotate_left 1
          · intro w hSw
            (try dsimp only at hSw)
            go_simp
            (try with_reducible rfl)
          (try simp only [Act.put, List.setIfInBounds_toArray, List.set_cons_zero, List.set_cons_succ])
          refine H_take (k := 22) (v := ?_) (by rfl) (by kernel_rfl) (by kernel_rfl) (by kernel_rfl) (by exact fun _ _ _ h => h) (by rfl) ?_ (by assumption) ?_
          rotate_left 1
          · intro w hSw
            (try dsimp only at hSw)
            go_simp
            (try with_reducible rfl)
          (try simp only [Act.put, List.setIfInBounds_toArray, List.set_cons_zero, List.set_cons_succ])
          refine H_done (by kernel_rfl) ?_
          go_wp2_with fail
          go_ret
          exact ⟨by rw [HV.out]; try rfl, hHeld⟩
def bestV (R : PlC) (z : Int) : Value := if z < 0 then .pointer none else .pointer (some ⟨R.di.getD z.toNat 0, 0, none⟩)
theorem bestV_neg (R : PlC) {z : Int} (h : z < 0) : bestV R z = .pointer none := if_pos h
theorem bestV_at (R : PlC) {i b : Nat} (h : R.di[i]? = some b) : bestV R (i : Int) = .pointer (some ⟨b, 0, none⟩) := by
  unfold bestV
  rw [if_neg (by omega), Int.toNat_natCast, getD_some h]
theorem deskP_ok {s : StyV} {A : List AgV} {dk : List DkV} {last : ByteArray} {c : CaV} {t : Int} (k : Nat) (hk : k ≤ A.length) : deskP s A dk last c t k = -1 ∨ ∃ (i : Nat) (a : AgV), i < k ∧ deskP s A dk last c t k = (i : Int) ∧ A[i]? = some a := by
  induction k with
  | zero => exact .inl rfl
  | succ k ih =>
    obtain ⟨a, ha⟩ : ∃ a, A[k]? = some a := ⟨_, List.getElem?_eq_getElem (by omega)⟩
    have h2 := ih (by omega)
    have h3 : deskP s A dk last c t k = -1 ∨ ∃ (i : Nat) (a : AgV), i < k + 1 ∧ deskP s A dk last c t k = (i : Int) ∧ A[i]? = some a := h2.elim Or.inl fun ⟨i, b, h, q⟩ => Or.inr ⟨i, b, by omega, q⟩
    rw [deskP_succ ha]
    split
    · split
      · exact .inr ⟨k, a, by omega, rfl, ha⟩
      · exact h3
    · exact h3
set_option maxHeartbeats 8000000 in
set_option maxRecDepth 100000 in
theorem pagent_any (wb : World) (R : PlC) (s : StyV) (A : List AgV) (C : List CaV) (p : PlS) (i : Nat) (c : CaV) (b : Nat) (t : Int) (w : World) (h : Pm wb w R s A C p) (hc : C[i]? = some c) (hb : R.wi[i]? = some b) :
    Calls Tryz.prog 86 #[.pointer (some ⟨R.pb, 0, none⟩), .pointer (some ⟨b, 0, none⟩), .int .i64 t] w (RetV (bestV R (chosenP s A p c t)) w) := by
  have H := Lib.hid h
  have hm := h.m
  obtain ⟨_, _, b', _, hb', _, _, hwb⟩ := h.at_.waiter hc
  obtain rfl : b = b' := by rw [hb] at hb'; injection hb'
  have HWB := Lib.hid (show Blk w b 119 #[.string c.id, .string c.skill, .int .i64 c.at_, .int .i64 c.least, .int .i64 c.prio, .int .i64 c.pat, .int .i64 c.talk, .bool c.back, .int .i64 (wtAt p.wt i).how, .string (wtAt p.wt i).seat.ca, .string (wtAt p.wt i).seat.ag, .int .i64 (wtAt p.wt i).seat.how, .int .i64 (wtAt p.wt i).seat.beg, .int .i64 (wtAt p.wt i).seat.fin] from hwb)
  have k3 := h.pp.cell 3
  clear h hc hb hb' hwb
  go_enter Tryz.func86, Tryz.ntmps86
  go_wp2_with fail
  clear k3
  go_loopw [7, 9, 15] (fun v7 _ t15 wr => ∃ k : Nat, t15 = .int .i64 k ∧ k ≤ A.length ∧ v7 = bestV R (deskP s A p.dk p.last c t k) ∧ w.grownBy wr none) (fun _ _ t15 _ => A.length - (intOf t15).toNat)
  case atStart => exact ⟨0, rfl, Nat.zero_le _, (bestV_neg R (by show (-1 : Int) < 0; omega)).symm, gr_refl _ _⟩
  case round =>
    obtain ⟨k, rfl, hk, rfl, hg⟩ := hrel
    have HG := Lib.hid hg
    clear hg
    by_cases hlt : k < A.length
    · obtain ⟨a, ha⟩ : ∃ a, A[k]? = some a := ⟨_, List.getElem?_eq_getElem hlt⟩
      have HH := Lib.hid (H.out.kept HG.out)
      obtain ⟨dg, dof, d, hD, hdi, kc, hx, hdb⟩ := HH.out.at_.desk ha
      have hlt2 : (k : Int) < (A.length : Int) := by omega
      have HDB := Lib.hid hdb
      have HDC := Lib.hid (show Blk wr d 116 #[.string a.key, .slice a.sA a.sn a.sc, .int .i64 a.fr, .int .i64 a.til, .slice a.pA a.pn a.pc, .int .i64 a.wrap, .int .i64 (dkAt p.dk k).tk, .int .i64 (dkAt p.dk k).en, .int .i64 (dkAt p.dk k).n] from hdb)
      have HAG := Lib.hid (HH.out.ag ha)
      obtain ⟨an1, an2, an3, an4, an5, _⟩ := (H.out.an a (mem_of_get ha)).1
      obtain ⟨q1, q2, q3, q4, q5, q6⟩ := H.out.bd _ (mem_of_get hx)
      have HSC := Lib.hid (deskP_succ (s := s) (dk := p.dk) (last := p.last) (c := c) (t := t) ha)
      have HBK := Lib.hid (bestV_at R hdi)
      obtain ⟨FR, hFR⟩ : ∃ F, freeP a (dkAt p.dk k) t = F := ⟨_, rfl⟩
      obtain ⟨LS, hLS⟩ : ∃ L, decide (lvl a.sk c.skill < c.least) = L := ⟨_, rfl⟩
      have HAB := Lib.hid (show ableB a c = !LS by
        rw [← hLS]; unfold ableB
        by_cases h : lvl a.sk c.skill < c.least
        · rw [decide_eq_true h, decide_eq_false (by omega)]; rfl
        · rw [decide_eq_false h, decide_eq_true (by omega)]; rfl)
      have HFR := Lib.hid hFR
      obtain ⟨Z, hZ⟩ : ∃ Z, deskP s A p.dk p.last c t k = Z := ⟨_, rfl⟩
      have HZ := Lib.hid hZ
      have HZO := Lib.hid (show Z = -1 ∨ ∃ (i : Nat) (a : AgV), i < k ∧ Z = (i : Int) ∧ A[i]? = some a by rw [← hZ]; exact deskP_ok k (by omega))
      rw [hZ]
      unfold ptrV at kc
      rw [hD]
      clear ha hD hdi hx hdb hFR hZ
      obtain ⟨wo, rfl⟩ : ∃ wo : World, wo = wr := ⟨_, rfl⟩
      obtain ⟨BV, hBV⟩ : ∃ B, bestV R Z = B := ⟨_, rfl⟩
      rw [hBV]
      have HBV := Lib.hid hBV
      clear hBV
      go_upto_region 5 with (fail)
      clear kc
      refine H_begin (fun w' => wo.grownBy w' none) (by kernel_rfl) ?_
      have hHeld : wo.grownBy wo.drew none := gr_drew (gr_refl _ _)
      refine H_take (k := 0) (v := ?_) (by rfl) (by kernel_rfl) (by kernel_rfl) (by kernel_rfl) (by exact fun _ _ _ h => h) (by rfl) ?_ (by assumption) ?_
      rotate_left 1
      · intro w hSw
        (try dsimp only at hSw)
        go_simp
        (try with_reducible rfl)
      (try simp only [Act.put, List.setIfInBounds_toArray, List.set_cons_zero, List.set_cons_succ])
      refine H_take (k := 1) (v := ?_) (by rfl) (by kernel_rfl) (by kernel_rfl) (by kernel_rfl) (by exact fun _ _ _ h => h) (by rfl) ?_ (by assumption) ?_
      rotate_left 1
      · intro w hSw
        (try dsimp only at hSw)
        go_simp
        (try with_reducible rfl)
      (try simp only [Act.put, List.setIfInBounds_toArray, List.set_cons_zero, List.set_cons_succ])
      refine H_run (k := 2) (by rfl) (by kernel_rfl) (by rfl) (fun K hK => ?_)
      go_simp
      refine (pfree_any d a (dkAt p.dk k) t _ (show Blk _ d 116 _ from HDC.out.grown hHeld (by simp)) (HAG.out.grown hHeld (fun g e => by cases e)) ⟨q3, q4⟩ ⟨an4, an5⟩).mono ?_
      rintro e w3 ⟨rfl, hg3⟩
      rw [HFR.out]
      have hg := gr_none hHeld hg3
      refine hK _ _ hg ?_
      clear hK K hHeld hg3
      have hHeld := hg
      clear hg
      (try simp only [Act.put, List.setIfInBounds_toArray, List.set_cons_zero, List.set_cons_succ])
      refine H_take (k := 3) (v := ?_) (by rfl) (by kernel_rfl) (by kernel_rfl) (by kernel_rfl) (by exact fun _ _ _ h => h) (by rfl) ?_ (by assumption) ?_
      rotate_left 1
      · intro w hSw
        (try dsimp only at hSw)
        go_simp
        (try with_reducible rfl)
      (try simp only [Act.put, List.setIfInBounds_toArray, List.set_cons_zero, List.set_cons_succ])
      refine H_take (k := 4) (v := ?_) (by rfl) (by kernel_rfl) (by kernel_rfl) (by kernel_rfl) (by exact fun _ _ _ h => h) (by rfl) ?_ (by assumption) ?_
      rotate_left 1
      · intro w hSw
        (try dsimp only at hSw)
        go_simp
        (try with_reducible rfl)
      (try simp only [Act.put, List.setIfInBounds_toArray, List.set_cons_zero, List.set_cons_succ])
      cases FR
      · refine H_skip (k := 5) (by rfl) (by kernel_rfl) (by kernel_rfl) (by kernel_rfl) (by exact fun _ _ _ h => h) (by rfl) (by assumption) ?_
        (try simp only [Act.put, List.setIfInBounds_toArray, List.set_cons_zero, List.set_cons_succ])
        refine H_skip (k := 6) (by rfl) (by kernel_rfl) (by kernel_rfl) (by kernel_rfl) (by exact fun _ _ _ h => h) (by rfl) (by assumption) ?_
        (try simp only [Act.put, List.setIfInBounds_toArray, List.set_cons_zero, List.set_cons_succ])
        refine H_skip (k := 7) (by rfl) (by kernel_rfl) (by kernel_rfl) (by kernel_rfl) (by exact fun _ _ _ h => h) (by rfl) (by assumption) ?_
        (try simp only [Act.put, List.setIfInBounds_toArray, List.set_cons_zero, List.set_cons_succ])
        refine H_skip (k := 8) (by rfl) (by kernel_rfl) (by kernel_rfl) (by kernel_rfl) (by exact fun _ _ _ h => h) (by rfl) (by assumption) ?_
        (try simp only [Act.put, List.setIfInBounds_toArray, List.set_cons_zero, List.set_cons_succ])
        refine H_skip (k := 9) (by rfl) (by kernel_rfl) (by kernel_rfl) (by kernel_rfl) (by exact fun _ _ _ h => h) (by rfl) (by assumption) ?_
        (try simp only [Act.put, List.setIfInBounds_toArray, List.set_cons_zero, List.set_cons_succ])
        refine H_skip (k := 10) (by rfl) (by kernel_rfl) (by kernel_rfl) (by kernel_rfl) (by exact fun _ _ _ h => h) (by rfl) (by assumption) ?_
        (try simp only [Act.put, List.setIfInBounds_toArray, List.set_cons_zero, List.set_cons_succ])
        refine H_skip (k := 11) (by rfl) (by kernel_rfl) (by kernel_rfl) (by kernel_rfl) (by exact fun _ _ _ h => h) (by rfl) (by assumption) ?_
        (try simp only [Act.put, List.setIfInBounds_toArray, List.set_cons_zero, List.set_cons_succ])
        refine H_skip (k := 12) (by rfl) (by kernel_rfl) (by kernel_rfl) (by kernel_rfl) (by exact fun _ _ _ h => h) (by rfl) (by assumption) ?_
        (try simp only [Act.put, List.setIfInBounds_toArray, List.set_cons_zero, List.set_cons_succ])
        refine H_skip (k := 13) (by rfl) (by kernel_rfl) (by kernel_rfl) (by kernel_rfl) (by exact fun _ _ _ h => h) (by rfl) (by assumption) ?_
        (try simp only [Act.put, List.setIfInBounds_toArray, List.set_cons_zero, List.set_cons_succ])
        refine H_skip (k := 14) (by rfl) (by kernel_rfl) (by kernel_rfl) (by kernel_rfl) (by exact fun _ _ _ h => h) (by rfl) (by assumption) ?_
        (try simp only [Act.put, List.setIfInBounds_toArray, List.set_cons_zero, List.set_cons_succ])
        refine H_skip (k := 15) (by rfl) (by kernel_rfl) (by kernel_rfl) (by kernel_rfl) (by exact fun _ _ _ h => h) (by rfl) (by assumption) ?_
        (try simp only [Act.put, List.setIfInBounds_toArray, List.set_cons_zero, List.set_cons_succ])
        refine H_skip (k := 16) (by rfl) (by kernel_rfl) (by kernel_rfl) (by kernel_rfl) (by exact fun _ _ _ h => h) (by rfl) (by assumption) ?_
        (try simp only [Act.put, List.setIfInBounds_toArray, List.set_cons_zero, List.set_cons_succ])
        refine H_skip (k := 17) (by rfl) (by kernel_rfl) (by kernel_rfl) (by kernel_rfl) (by exact fun _ _ _ h => h) (by rfl) (by assumption) ?_
        (try simp only [Act.put, List.setIfInBounds_toArray, List.set_cons_zero, List.set_cons_succ])
        refine H_skip (k := 18) (by rfl) (by kernel_rfl) (by kernel_rfl) (by kernel_rfl) (by exact fun _ _ _ h => h) (by rfl) (by assumption) ?_
        (try simp only [Act.put, List.setIfInBounds_toArray, List.set_cons_zero, List.set_cons_succ])
        refine H_skip (k := 19) (by rfl) (by kernel_rfl) (by kernel_rfl) (by kernel_rfl) (by exact fun _ _ _ h => h) (by rfl) (by assumption) ?_
        (try simp only [Act.put, List.setIfInBounds_toArray, List.set_cons_zero, List.set_cons_succ])
        refine H_skip (k := 20) (by rfl) (by kernel_rfl) (by kernel_rfl) (by kernel_rfl) (by exact fun _ _ _ h => h) (by rfl) (by assumption) ?_
        (try simp only [Act.put, List.setIfInBounds_toArray, List.set_cons_zero, List.set_cons_succ])
        refine H_take (k := 21) (v := ?_) (by rfl) (by kernel_rfl) (by kernel_rfl) (by kernel_rfl) (by exact fun _ _ _ h => h) (by rfl) ?_ (by assumption) ?_
        rotate_left 1
        · intro w hSw
          (try dsimp only at hSw)
          go_simp
          (try with_reducible rfl)
        (try simp only [Act.put, List.setIfInBounds_toArray, List.set_cons_zero, List.set_cons_succ])
        refine H_done (by kernel_rfl) ?_
        have HN := Lib.hid (show deskP s A p.dk p.last c t (k + 1) = Z by rw [HSC.out, HFR.out, HZ.out]; simp)
        replace HG := Lib.hid (gr_none HG.out hHeld)
        clear hHeld
        go_wp2_with fail
        go_roundw
        case rel => exact ⟨k + 1, by go_num, by omega, by rw [HN.out, HBV.out], HG.out⟩
        case measure => simp [intOf]; omega
      · refine H_take (k := 5) (v := ?_) (by rfl) (by kernel_rfl) (by kernel_rfl) (by kernel_rfl) (by exact fun _ _ _ h => h) (by rfl) ?_ (by assumption) ?_
        rotate_left 1
        · intro w hSw
          (try dsimp only at hSw)
          go_simp
          (try with_reducible rfl)
        (try simp only [Act.put, List.setIfInBounds_toArray, List.set_cons_zero, List.set_cons_succ])
        refine H_take (k := 6) (v := ?_) (by rfl) (by kernel_rfl) (by kernel_rfl) (by kernel_rfl) (by exact fun _ _ _ h => h) (by rfl) ?_ (by assumption) ?_
        rotate_left 1
        · intro w hSw
          (try dsimp only at hSw)
          go_simp
          (try with_reducible rfl)
        (try simp only [Act.put, List.setIfInBounds_toArray, List.set_cons_zero, List.set_cons_succ])
        refine H_take (k := 7) (v := ?_) (by rfl) (by kernel_rfl) (by kernel_rfl) (by kernel_rfl) (by exact fun _ _ _ h => h) (by rfl) ?_ (by assumption) ?_
        rotate_left 1
        · intro w hSw
          (try dsimp only at hSw)
          go_simp
          (try with_reducible rfl)
        (try simp only [Act.put, List.setIfInBounds_toArray, List.set_cons_zero, List.set_cons_succ])
        refine H_take (k := 8) (v := .agg #[.string a.key, .slice a.sA a.sn a.sc, .int .i64 a.fr, .int .i64 a.til, .slice a.pA a.pn a.pc, .int .i64 a.wrap]) (by rfl) (by kernel_rfl) (by kernel_rfl) (by kernel_rfl) (by exact fun _ _ _ h => h) (by rfl) (fun w' hSw => exec_ldr Tryz.agT _ rfl _ rfl [.string a.key, .slice a.sA a.sn a.sc, .int .i64 a.fr, .int .i64 a.til, .slice a.pA a.pn a.pc, .int .i64 a.wrap] (fun j u hu => by rw [add_mk]; exact (desk_ag (HDC.out.grown hSw (by simp))) j u hu) rfl) (by assumption) ?_
        (try simp only [Act.put, List.setIfInBounds_toArray, List.set_cons_zero, List.set_cons_succ])
        refine H_take (k := 9) (v := ?_) (by rfl) (by kernel_rfl) (by kernel_rfl) (by kernel_rfl) (by exact fun _ _ _ h => h) (by rfl) ?_ (by assumption) ?_
        rotate_left 1
        · intro w hSw
          (try dsimp only at hSw)
          go_simp
          (try with_reducible rfl)
        (try simp only [Act.put, List.setIfInBounds_toArray, List.set_cons_zero, List.set_cons_succ])
        refine H_take (k := 10) (v := ?_) (by rfl) (by kernel_rfl) (by kernel_rfl) (by kernel_rfl) (by exact fun _ _ _ h => h) (by rfl) ?_ (by assumption) ?_
        rotate_left 1
        · intro w hSw
          (try dsimp only at hSw)
          go_simp
          (try with_reducible rfl)
        (try simp only [Act.put, List.setIfInBounds_toArray, List.set_cons_zero, List.set_cons_succ])
        refine H_take (k := 11) (v := ?_) (by rfl) (by kernel_rfl) (by kernel_rfl) (by kernel_rfl) (by exact fun _ _ _ h => h) (by rfl) ?_ (by assumption) ?_
        rotate_left 1
        · intro w hSw
          (try dsimp only at hSw)
          go_simp
          (try with_reducible rfl)
        (try simp only [Act.put, List.setIfInBounds_toArray, List.set_cons_zero, List.set_cons_succ])
        refine H_take (k := 12) (v := ?_) (by rfl) (by kernel_rfl) (by kernel_rfl) (by kernel_rfl) (by exact fun _ _ _ h => h) (by rfl) ?_ (by assumption) ?_
        rotate_left 1
        · intro w hSw
          (try dsimp only at hSw)
          go_simp
          (try with_reducible rfl)
        (try simp only [Act.put, List.setIfInBounds_toArray, List.set_cons_zero, List.set_cons_succ])
        refine H_take (k := 13) (v := ?_) (by rfl) (by kernel_rfl) (by kernel_rfl) (by kernel_rfl) (by exact fun _ _ _ h => h) (by rfl) ?_ (by assumption) ?_
        rotate_left 1
        · intro w' hSw
          have kc := ((HWB.out.grown HG.out (by simp)).grown hSw (by simp)).cell 1
          go_simp
          (try with_reducible rfl)
        (try simp only [Act.put, List.setIfInBounds_toArray, List.set_cons_zero, List.set_cons_succ])
        refine H_take (k := 15) (v := ?_) (by rfl) (by kernel_rfl) (by kernel_rfl) (by kernel_rfl) (by exact fun _ _ _ h => h) (by rfl) ?_ (by assumption) ?_
        rotate_left 1
        · intro w hSw
          (try dsimp only at hSw)
          go_simp
          (try with_reducible rfl)
        (try simp only [Act.put, List.setIfInBounds_toArray, List.set_cons_zero, List.set_cons_succ])
        refine H_take (k := 16) (v := ?_) (by rfl) (by kernel_rfl) (by kernel_rfl) (by kernel_rfl) (by exact fun _ _ _ h => h) (by rfl) ?_ (by assumption) ?_
        rotate_left 1
        · intro w hSw
          (try dsimp only at hSw)
          go_simp
          (try with_reducible rfl)
        (try simp only [Act.put, List.setIfInBounds_toArray, List.set_cons_zero, List.set_cons_succ])
        refine H_take (k := 17) (v := ?_) (by rfl) (by kernel_rfl) (by kernel_rfl) (by kernel_rfl) (by exact fun _ _ _ h => h) (by rfl) ?_ (by assumption) ?_
        rotate_left 1
        · intro w hSw
          (try dsimp only at hSw)
          go_simp
          (try with_reducible rfl)
        (try simp only [Act.put, List.setIfInBounds_toArray, List.set_cons_zero, List.set_cons_succ])
        refine H_take (k := 18) (v := ?_) (by rfl) (by kernel_rfl) (by kernel_rfl) (by kernel_rfl) (by exact fun _ _ _ h => h) (by rfl) ?_ (by assumption) ?_
        rotate_left 1
        · intro w hSw
          (try dsimp only at hSw)
          go_simp
          (try with_reducible rfl)
        (try simp only [Act.put, List.setIfInBounds_toArray, List.set_cons_zero, List.set_cons_succ])
        refine H_take (k := 19) (v := ?_) (by rfl) (by kernel_rfl) (by kernel_rfl) (by kernel_rfl) (by exact fun _ _ _ h => h) (by rfl) ?_ (by assumption) ?_
        rotate_left 1
        · intro w' hSw
          have kc := ((HWB.out.grown HG.out (by simp)).grown hSw (by simp)).cell 3
          go_simp
          (try with_reducible rfl)
        (try simp only [Act.put, List.setIfInBounds_toArray, List.set_cons_zero, List.set_cons_succ])
        refine H_run (k := 14) (by rfl) (by kernel_rfl) (by rfl) (fun K hK => ?_)
        go_simp
        refine (level_any 0 a c.skill _ (HAG.out.grown hHeld (fun g e => by cases e))).mono ?_
        rintro e w5 ⟨rfl, hg5⟩
        have hg := gr_none hHeld hg5
        refine hK _ _ hg ?_
        clear hK K hHeld hg5
        have hHeld := hg
        clear hg
        (try simp only [Act.put, List.setIfInBounds_toArray, List.set_cons_zero, List.set_cons_succ])
        refine H_take (k := 20) (v := ?_) (by rfl) (by kernel_rfl) (by kernel_rfl) (by kernel_rfl) (by exact fun _ _ _ h => h) (by rfl) ?_ (by assumption) ?_
        rotate_left 1
        · intro w hSw
          (try dsimp only at hSw)
          go_simp
          (try with_reducible rfl)
        (try simp only [Act.put, List.setIfInBounds_toArray, List.set_cons_zero, List.set_cons_succ])
        refine H_take (k := 21) (v := ?_) (by rfl) (by kernel_rfl) (by kernel_rfl) (by kernel_rfl) (by exact fun _ _ _ h => h) (by rfl) ?_ (by assumption) ?_
        rotate_left 1
        · intro w hSw
          (try dsimp only at hSw)
          go_simp
          (try with_reducible rfl)
        (try simp only [Act.put, List.setIfInBounds_toArray, List.set_cons_zero, List.set_cons_succ])
        refine H_done (by kernel_rfl) ?_
        (try rw [hLS])
        cases LS
        · have HN := Lib.hid (show deskP s A p.dk p.last c t (k + 1) = if decide (Z < 0) || (A[Z.toNat]?).elim false (fun b => betterP s.kind a (dkAt p.dk k) b (dkAt p.dk Z.toNat) p.last c.skill) then (k : Int) else Z by rw [HSC.out, HFR.out, HZ.out, HAB.out]; simp)
          replace HH := Lib.hid (HH.out.kept hHeld)
          replace HDB := Lib.hid (show DkBlk _ d a (dkAt p.dk k) from HDC.out.grown hHeld (by simp))
          replace HAG := Lib.hid (HAG.out.grown hHeld (fun g e => by cases e))
          replace HG := Lib.hid (gr_none HG.out hHeld)
          clear hHeld hLS
          rcases HZO.out with rfl | ⟨j, a2, hj, rfl, ha2⟩
          · have HN2 := Lib.hid (show deskP s A p.dk p.last c t (k + 1) = (k : Int) by rw [HN.out]; rfl)
            have HB0 := Lib.hid (show BV = .pointer none by rw [← HBV.out]; rfl)
            rw [HB0.out]
            go_wp2_with fail
            go_roundw
            case rel => exact ⟨k + 1, by go_num, by omega, by rw [HN2.out, HBK.out], HG.out⟩
            case measure => simp [intOf]; omega
          · obtain ⟨_, _, d2, _, hd2, _, hx2, hdb2⟩ := HH.out.at_.desk ha2
            have HAG2 := Lib.hid (HH.out.ag ha2)
            have HDB2 := Lib.hid hdb2
            have HB0 := Lib.hid (show BV = .pointer (some ⟨d2, 0, none⟩) by rw [← HBV.out]; exact bestV_at R hd2)
            obtain ⟨BT, hBT⟩ : ∃ B, betterP s.kind a (dkAt p.dk k) a2 (dkAt p.dk j) p.last c.skill = B := ⟨_, rfl⟩
            have HBT := Lib.hid hBT
            have HN2 := Lib.hid (show deskP s A p.dk p.last c t (k + 1) = if BT then (k : Int) else (j : Int) by
              rw [HN.out, decide_eq_false (show ¬ ((j : Int) < 0) by omega), Int.toNat_natCast, ha2]
              show (if (false || betterP s.kind a (dkAt p.dk k) a2 (dkAt p.dk j) p.last c.skill) = true then _ else _) = _
              rw [hBT]; rfl)
            have kw := (HWB.out.grown HG.out (by simp)).cell 1
            rw [HB0.out]
            clear hd2 hx2 hdb2 ha2 hBT
            go_wp2_with fail
            refine (pbetter_any R s A.length C.length p.last d d2 a a2 _ _ c.skill _ HH.out.at_.pl HDB.out HDB2.out HAG.out HAG2.out).mono ?_
            rintro e w6 ⟨rfl, hg6⟩
            rw [HBT.out]
            replace HG := Lib.hid (gr_none HG.out hg6)
            clear hg6 kw
            cases BT
            · go_wp2_with fail
              go_roundw
              case rel => exact ⟨k + 1, by go_num, by omega, by rw [HN2.out, ← HB0.out, ← HBV.out]; rfl, HG.out⟩
              case measure => simp [intOf]; omega
            · go_wp2_with fail
              go_roundw
              case rel => exact ⟨k + 1, by go_num, by omega, by rw [HN2.out, if_pos (by trivial), HBK.out], HG.out⟩
              case measure => simp [intOf]; omega
        · have HN := Lib.hid (show deskP s A p.dk p.last c t (k + 1) = Z by rw [HSC.out, HFR.out, HZ.out, HAB.out]; simp)
          replace HG := Lib.hid (gr_none HG.out hHeld)
          clear hHeld hLS
          go_wp2_with fail
          go_roundw
          case rel => exact ⟨k + 1, by go_num, by omega, by rw [HN.out, HBV.out], HG.out⟩
          case measure => simp [intOf]; omega
    · obtain rfl : k = A.length := by omega
      have HV := Lib.hid (show chosenP s A p c t = deskP s A p.dk p.last c t A.length from rfl)
      go_wp2_with fail
      go_ret
      exact ⟨by rw [HV.out]; try rfl, HG.out⟩
end Go.Proofs.YtpildcnoghojpaaGreatDoor

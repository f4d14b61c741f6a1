/- Contract of the document's ChargesOf. Conditions: the arguments are right. -/
import Derived.Test.YtlkibeckfpjccaaGreatDoorBun7
import Derived.Test.YtlkibeckfpjccaaGreatDoorBun1
namespace Go.Proofs.YtlkibeckfpjccaaGreatDoor
open Go.RowKit

/-- Three results, the middle one in memory. -/
theorem ret_tmp_cell_tmp {P : Program} {w : World} {fn : Func} {a : Act} {R : Ending → World → Prop} {ty : TypeId} {n : Nat} (T : StructT P ty n) {p q r : Tmp} (hr : fn.results = #[.tmp r, .cell p ty, .tmp q]) (g : Nat) (t : TypeId) (cs : Array Value) (u v : Value) (hp : a.tmps.getD p undef = .pointer (some ⟨g, 0, none⟩)) (hq : a.tmps.getD q undef = v) (hu : a.tmps.getD r undef = u) (hb : Blk w g t cs) (hn : cs.size = n)
    (hd : a.defers = []) (h : R (.returned (.tuple #[u, .agg cs, v])) w) : bodyPost P fn R .ret a w := by
  obtain ⟨d, h1, h2, h3⟩ := T
  refine bodyPost_ret (v := .tuple #[u, .agg cs, v]) ?_ hd h
  have hp' : a.tmps[p]?.getD undef = .pointer (some ⟨g, 0, none⟩) := by simpa using hp
  have hq' : a.tmps[q]?.getD undef = v := by simpa using hq
  have hu' : a.tmps[r]?.getD undef = u := by simpa using hu
  simp [results, hr, hp', hq', hu', asAddr, run_loadVar_row w g t ty cs (0, 0) d hb h1 (by cases d <;> first | rfl | (cases h2)) (by rw [hn]; exact h3)]
def payVal (t : TfV) (p : List PyV) (r : RcV) : Value := .tuple #[.string (optS ((payerOf p (nb r.frm)).map (·.key))), .agg (clsRow (clsOf t.cl (nb r.too))), .bool (paidB t p r)]
set_option maxHeartbeats 8000000 in
set_option maxRecDepth 100000 in
theorem paying_any (lo : Nat) (cA iA : Option Addr) (cn cc en ic : Nat) (free : Int) (cl : List ClV) (ins : List ByteArray) (P : Option Addr) (pn pc : Nat) (p : List PyV) (id frm too : ByteArray) (at_ ring talk how : Int) (car : ByteArray) (w : World) (htf : TfOk w lo ⟨cA, cn, cc, free, iA, en, ic, cl, ins⟩) (hpy : Pys w lo P pn pc p) (hpn : pn ≤ 1000) (hr : too.size ≤ 1000) :
    Calls Tryz.prog 72 #[.agg #[.slice cA cn cc, .int .i64 free, .slice iA en ic], .slice P pn pc, .agg #[.string id, .string frm, .string too, .int .i64 at_, .int .i64 ring, .int .i64 talk, .int .i64 how, .string car]] w (RetV (payVal ⟨cA, cn, cc, free, iA, en, ic, cl, ins⟩ p ⟨id, frm, too, at_, ring, talk, how, car⟩) w) := by
  have HTF := Lib.hid htf; have HPY := Lib.hid hpy
  clear htf hpy
  obtain ⟨W1, hW⟩ : ∃ W1, ((w.alloc (.cells #[.slice cA cn cc, .int .i64 free, .slice iA en ic] 29)).alloc (.cells #[.string id, .string frm, .string too, .int .i64 at_, .int .i64 ring, .int .i64 talk, .int .i64 how, .string car] 69)).alloc (.cells #[.string ⟨#[]⟩, .string ⟨#[]⟩, .int .i64 0, .int .i64 0, .int .i64 0, .int .i64 0] 61) = W1 := ⟨_, rfl⟩
  have HT := Lib.hid (show Blk W1 w.heap.size 29 #[.slice cA cn cc, .int .i64 free, .slice iA en ic] by rw [← hW]; exact ((Blk.new _ _ _).alloc _).alloc _)
  have HR := Lib.hid (show Blk W1 (w.heap.size + 1) 69 #[.string id, .string frm, .string too, .int .i64 at_, .int .i64 ring, .int .i64 talk, .int .i64 how, .string car] by rw [← hW]; exact (blkN _ _ _ (by simp)).alloc _)
  have HZ := Lib.hid (show Blk W1 (w.heap.size + 1 + 1) 61 #[.string ⟨#[]⟩, .string ⟨#[]⟩, .int .i64 0, .int .i64 0, .int .i64 0, .int .i64 0] by rw [← hW]; exact blkN _ _ _ (by simp))
  have HG := Lib.hid (show w.grownBy W1 none by rw [← hW]; exact gr_alloc (gr_alloc (gr_alloc (gr_refl _ _) _) _) _)
  have zw : W1.heap.size = w.heap.size + 3 := by rw [← hW]; simp
  have zw1 : w.heap.size + 3 ≤ W1.heap.size := by omega
  clear zw
  have HW := Lib.hid hW; clear hW
  obtain ⟨YS, hYS⟩ : ∃ YS, optS ((payerOf p (nb frm)).map (·.key)) = YS := ⟨_, rfl⟩
  obtain ⟨YB, hYB⟩ : ∃ YB, ((payerOf p (nb frm)).map (·.key)).isSome = YB := ⟨_, rfl⟩
  obtain ⟨C, hC⟩ : ∃ C, clsOf cl (nb too) = C := ⟨_, rfl⟩
  obtain ⟨CB, hCB⟩ : ∃ CB, C.isSome = CB := ⟨_, rfl⟩
  obtain ⟨q0, q1, i1, i2, i3, i4, hrow⟩ := clsRow_is C
  have HV := Lib.hid (show payVal ⟨cA, cn, cc, free, iA, en, ic, cl, ins⟩ p ⟨id, frm, too, at_, ring, talk, how, car⟩ = .tuple #[.string YS, .agg #[.string q0, .string q1, .int .i64 i1, .int .i64 i2, .int .i64 i3, .int .i64 i4], .bool (YB && CB)] by
    unfold payVal paidB; dsimp only; rw [hYS, hC, hrow, hCB, ← hYB, Option.isSome_map])
  have HYS := Lib.hid hYS; have HYB := Lib.hid hYB; have HC := Lib.hid hC; have HCB := Lib.hid hCB; have HROW := Lib.hid hrow
  clear hYS hYB hC hCB hrow
  go_enter Tryz.func72, Tryz.ntmps72
  go_upto_region 1 with (fail)
  rw [HW.out]
  have k1 := HR.out.cell 1
  go_wp2_with fail
  refine (payerFor_any lo P pn pc p frm _ (HPY.out.grown HG.out (fun g e => by cases e)) hpn).mono ?_
  rintro e w2 ⟨rfl, hg2⟩
  rw [HYS.out, HYB.out]
  have HT2 := Lib.hid (HT.out.grown hg2 (by simp))
  have HR2 := Lib.hid (HR.out.grown hg2 (by simp))
  have HZ2 := Lib.hid (HZ.out.grown hg2 (by simp))
  have HG2 := Lib.hid (gr_none HG.out hg2)
  have z2 := hg2.size
  clear hg2 k1
  have k2 := HR2.out.cell 2
  go_wp2_with (first
    | (refine wpl_load_all Tryz.tfT rfl _ rfl _ rfl _ _ HT2.out rfl ?_)
    | fail)
  refine (classFor_any lo ⟨cA, cn, cc, free, iA, en, ic, cl, ins⟩ too _ (HTF.out.grown HG2.out (fun g e => by cases e)) (by omega)).mono ?_
  rintro e w3 ⟨rfl, hg3⟩
  rw [show clsOf (TfV.cl ⟨cA, cn, cc, free, iA, en, ic, cl, ins⟩) (nb too) = C from HC.out, HROW.out, HCB.out]
  go_upto_region 3 with (fail)
  obtain ⟨w4, hw4⟩ : ∃ w4, w3.alloc (.cells #[.string q0, .string q1, .int .i64 i1, .int .i64 i2, .int .i64 i3, .int .i64 i4] 61) = w4 := ⟨_, rfl⟩
  rw [hw4]
  have HK := Lib.hid (show Blk w4 w3.heap.size 61 #[.string q0, .string q1, .int .i64 i1, .int .i64 i2, .int .i64 i3, .int .i64 i4] by rw [← hw4]; exact Blk.new _ _ _)
  have HZ4 := Lib.hid (show Blk w4 (w.heap.size + 1 + 1) 61 #[.string ⟨#[]⟩, .string ⟨#[]⟩, .int .i64 0, .int .i64 0, .int .i64 0, .int .i64 0] by rw [← hw4]; exact (HZ2.out.grown hg3 (by simp)).alloc _)
  have HG4 := Lib.hid (show w.grownBy w4 none by rw [← hw4]; exact gr_alloc (gr_none HG2.out hg3) _)
  have z3 := hg3.size
  clear hg3 hw4 k2
  cases YB
  · refine H_begin (fun w' => w4.grownBy w' (some (w.heap.size + 1 + 1))) (by kernel_rfl) ?_
    have hHeld : w4.grownBy w4.drew (some (w.heap.size + 1 + 1)) := gr_drew (gr_refl _ _)
    refine H_take (k := 0) (v := ?_) (by rfl) (by kernel_rfl) (by kernel_rfl) (by kernel_rfl) (by exact fun _ _ _ h => h) (by rfl) ?_ (by assumption) ?_
    rotate_left 1
    · intro w hSw
      (try dsimp only at hSw)
      go_simp
      (try with_reducible rfl)
    (try simp only [Act.put, List.setIfInBounds_toArray, List.set_cons_zero, List.set_cons_succ])
    refine H_take (k := 1) (v := .agg #[.string q0, .string q1, .int .i64 i1, .int .i64 i2, .int .i64 i3, .int .i64 i4]) (by rfl) (by kernel_rfl) (by kernel_rfl) (by kernel_rfl) (by exact fun _ _ _ h => h) (by rfl) (fun w' hSw => exec_load_at Tryz.clT _ rfl _ rfl [.string q0, .string q1, .int .i64 i1, .int .i64 i2, .int .i64 i3, .int .i64 i4] rfl (fun j u hu => by rw [add_mk, Nat.zero_add]; exact ((HK.out.grown hSw (by simp; omega)).cell j).trans (by simpa using hu))) (by assumption) ?_
    (try simp only [Act.put, List.setIfInBounds_toArray, List.set_cons_zero, List.set_cons_succ])
    refine H_take (k := 2) (v := ?_) (by rfl) (by kernel_rfl) (by kernel_rfl) (by kernel_rfl) (by exact fun _ _ _ h => h) (by rfl) ?_ (by assumption) ?_
    rotate_left 1
    · intro w hSw
      (try dsimp only at hSw)
      go_simp
      (try with_reducible rfl)
    (try simp only [Act.put, List.setIfInBounds_toArray, List.set_cons_zero, List.set_cons_succ])
    refine H_take (k := 3) (v := ?_) (by rfl) (by kernel_rfl) (by kernel_rfl) (by kernel_rfl) (by exact fun _ _ _ h => h) (by rfl) ?_ (by assumption) ?_
    rotate_left 1
    · intro w hSw
      (try dsimp only at hSw)
      go_simp
      (try with_reducible rfl)
    (try simp only [Act.put, List.setIfInBounds_toArray, List.set_cons_zero, List.set_cons_succ])
    refine H_skip (k := 4) (by rfl) (by kernel_rfl) (by kernel_rfl) (by kernel_rfl) (by exact fun _ _ _ h => h) (by rfl) (by assumption) ?_
    (try simp only [Act.put, List.setIfInBounds_toArray, List.set_cons_zero, List.set_cons_succ])
    refine H_take (k := 5) (v := ?_) (by rfl) (by kernel_rfl) (by kernel_rfl) (by kernel_rfl) (by exact fun _ _ _ h => h) (by rfl) ?_ (by assumption) ?_
    rotate_left 1
    · intro w hSw
      (try dsimp only at hSw)
      go_simp
      (try with_reducible rfl)
    (try simp only [Act.put, List.setIfInBounds_toArray, List.set_cons_zero, List.set_cons_succ])
    refine H_take (k := 6) (v := ?_) (by rfl) (by kernel_rfl) (by kernel_rfl) (by kernel_rfl) (by exact fun _ _ _ h => h) (by rfl) ?_ (by assumption) ?_
    rotate_left 1
    · intro w hSw
      (try dsimp only at hSw)
      go_simp
      (try with_reducible rfl)
    (try simp only [Act.put, List.setIfInBounds_toArray, List.set_cons_zero, List.set_cons_succ])
    refine H_run (k := 7) (by rfl) (by kernel_rfl) (by rfl) (fun K hK => ?_)
    refine wp_store_all Tryz.clT _ _ rfl (w.heap.size + 1 + 1) rfl 61 _ #[.string q0, .string q1, .int .i64 i1, .int .i64 i2, .int .i64 i3, .int .i64 i4] rfl HZ4.out.drew rfl rfl (by simp [Value.oneCell']) ?_
    intro w5 hst
    obtain ⟨hb5, hg5, -⟩ := hst
    refine hK _ _ (gr_same (gr_drew (gr_refl w4 _)) hg5) ?_
    clear hK K hHeld
    have hHeld : w4.grownBy w5 (some (w.heap.size + 1 + 1)) := gr_same (gr_drew (gr_refl w4 _)) hg5
    have HK5 := Lib.hid hb5
    have HG5 := Lib.hid (gr_trans HG4.out hHeld (fun g e => .inr (by injection e with e; omega)))
    clear hb5 hg5
    (try simp only [Act.put, List.setIfInBounds_toArray, List.set_cons_zero, List.set_cons_succ])
    refine H_take (k := 8) (v := ?_) (by rfl) (by kernel_rfl) (by kernel_rfl) (by kernel_rfl) (by exact fun _ _ _ h => h) (by rfl) ?_ (by assumption) ?_
    rotate_left 1
    · intro w hSw
      (try dsimp only at hSw)
      go_simp
      (try with_reducible rfl)
    (try simp only [Act.put, List.setIfInBounds_toArray, List.set_cons_zero, List.set_cons_succ])
    refine H_done (by kernel_rfl) ?_
    clear hHeld
    go_simp
    go_wp2_with fail
    refine ret_tmp_cell_tmp Tryz.clT rfl _ _ _ _ _ rfl rfl rfl HK5.out rfl rfl ?_
    exact ⟨by rw [HV.out]; rfl, HG5.out⟩
  · refine H_begin (fun w' => w4.grownBy w' (some (w.heap.size + 1 + 1))) (by kernel_rfl) ?_
    have hHeld : w4.grownBy w4.drew (some (w.heap.size + 1 + 1)) := gr_drew (gr_refl _ _)
    refine H_take (k := 0) (v := ?_) (by rfl) (by kernel_rfl) (by kernel_rfl) (by kernel_rfl) (by exact fun _ _ _ h => h) (by rfl) ?_ (by assumption) ?_
    rotate_left 1
    · intro w hSw
      (try dsimp only at hSw)
      go_simp
      (try with_reducible rfl)
    (try simp only [Act.put, List.setIfInBounds_toArray, List.set_cons_zero, List.set_cons_succ])
    refine H_take (k := 1) (v := .agg #[.string q0, .string q1, .int .i64 i1, .int .i64 i2, .int .i64 i3, .int .i64 i4]) (by rfl) (by kernel_rfl) (by kernel_rfl) (by kernel_rfl) (by exact fun _ _ _ h => h) (by rfl) (fun w' hSw => exec_load_at Tryz.clT _ rfl _ rfl [.string q0, .string q1, .int .i64 i1, .int .i64 i2, .int .i64 i3, .int .i64 i4] rfl (fun j u hu => by rw [add_mk, Nat.zero_add]; exact ((HK.out.grown hSw (by simp; omega)).cell j).trans (by simpa using hu))) (by assumption) ?_
    (try simp only [Act.put, List.setIfInBounds_toArray, List.set_cons_zero, List.set_cons_succ])
    refine H_take (k := 2) (v := ?_) (by rfl) (by kernel_rfl) (by kernel_rfl) (by kernel_rfl) (by exact fun _ _ _ h => h) (by rfl) ?_ (by assumption) ?_
    rotate_left 1
    · intro w hSw
      (try dsimp only at hSw)
      go_simp
      (try with_reducible rfl)
    (try simp only [Act.put, List.setIfInBounds_toArray, List.set_cons_zero, List.set_cons_succ])
    refine H_take (k := 3) (v := ?_) (by rfl) (by kernel_rfl) (by kernel_rfl) (by kernel_rfl) (by exact fun _ _ _ h => h) (by rfl) ?_ (by assumption) ?_
    rotate_left 1
    · intro w hSw
      (try dsimp only at hSw)
      go_simp
      (try with_reducible rfl)
    (try simp only [Act.put, List.setIfInBounds_toArray, List.set_cons_zero, List.set_cons_succ])
    refine H_take (k := 4) (v := ?_) (by rfl) (by kernel_rfl) (by kernel_rfl) (by kernel_rfl) (by exact fun _ _ _ h => h) (by rfl) ?_ (by assumption) ?_
    rotate_left 1
    · intro w hSw
      (try dsimp only at hSw)
      go_simp
      (try with_reducible rfl)
    (try simp only [Act.put, List.setIfInBounds_toArray, List.set_cons_zero, List.set_cons_succ])
    refine H_take (k := 5) (v := ?_) (by rfl) (by kernel_rfl) (by kernel_rfl) (by kernel_rfl) (by exact fun _ _ _ h => h) (by rfl) ?_ (by assumption) ?_
    rotate_left 1
    · intro w hSw
      (try dsimp only at hSw)
      go_simp
      (try with_reducible rfl)
    (try simp only [Act.put, List.setIfInBounds_toArray, List.set_cons_zero, List.set_cons_succ])
    refine H_take (k := 6) (v := ?_) (by rfl) (by kernel_rfl) (by kernel_rfl) (by kernel_rfl) (by exact fun _ _ _ h => h) (by rfl) ?_ (by assumption) ?_
    rotate_left 1
    · intro w hSw
      (try dsimp only at hSw)
      go_simp
      (try with_reducible rfl)
    (try simp only [Act.put, List.setIfInBounds_toArray, List.set_cons_zero, List.set_cons_succ])
    refine H_run (k := 7) (by rfl) (by kernel_rfl) (by rfl) (fun K hK => ?_)
    refine wp_store_all Tryz.clT _ _ rfl (w.heap.size + 1 + 1) rfl 61 _ #[.string q0, .string q1, .int .i64 i1, .int .i64 i2, .int .i64 i3, .int .i64 i4] rfl HZ4.out.drew rfl rfl (by simp [Value.oneCell']) ?_
    intro w5 hst
    obtain ⟨hb5, hg5, -⟩ := hst
    refine hK _ _ (gr_same (gr_drew (gr_refl w4 _)) hg5) ?_
    clear hK K hHeld
    have hHeld : w4.grownBy w5 (some (w.heap.size + 1 + 1)) := gr_same (gr_drew (gr_refl w4 _)) hg5
    have HK5 := Lib.hid hb5
    have HG5 := Lib.hid (gr_trans HG4.out hHeld (fun g e => .inr (by injection e with e; omega)))
    clear hb5 hg5
    (try simp only [Act.put, List.setIfInBounds_toArray, List.set_cons_zero, List.set_cons_succ])
    refine H_take (k := 8) (v := ?_) (by rfl) (by kernel_rfl) (by kernel_rfl) (by kernel_rfl) (by exact fun _ _ _ h => h) (by rfl) ?_ (by assumption) ?_
    rotate_left 1
    · intro w hSw
      (try dsimp only at hSw)
      go_simp
      (try with_reducible rfl)
    (try simp only [Act.put, List.setIfInBounds_toArray, List.set_cons_zero, List.set_cons_succ])
    refine H_done (by kernel_rfl) ?_
    clear hHeld
    go_simp
    go_wp2_with fail
    refine ret_tmp_cell_tmp Tryz.clT rfl _ _ _ _ _ rfl rfl rfl HK5.out rfl rfl ?_
    exact ⟨by rw [HV.out]; rfl, HG5.out⟩

theorem paidB_false {t : TfV} {p : List PyV} {r : RcV} (h : paidB t p r = false) : payerOf p (nb r.frm) = none ∨ clsOf t.cl (nb r.too) = none := by
  unfold paidB at h
  cases h1 : payerOf p (nb r.frm) with
  | none => exact .inl rfl
  | some y =>
    cases h2 : clsOf t.cl (nb r.too) with
    | none => exact .inr rfl
    | some c => rw [h1, h2] at h; cases h
theorem paidB_true {t : TfV} {p : List PyV} {r : RcV} (h : paidB t p r = true) : (∃ y, payerOf p (nb r.frm) = some y) ∧ ∃ c, clsOf t.cl (nb r.too) = some c := by
  unfold paidB at h
  cases h1 : payerOf p (nb r.frm) with
  | none => rw [h1] at h; cases h
  | some y =>
    cases h2 : clsOf t.cl (nb r.too) with
    | none => rw [h1, h2] at h; cases h
    | some c => exact ⟨⟨y, rfl⟩, c, rfl⟩
def ChargesOfV (t : TfV) (p : List PyV) (month : Int) (l : List RcV) (w : World) (e : Ending) (w' : World) : Prop := ∃ A n c, e = .returned (.slice A n c) ∧ OwnR ChV.row 5 w' w.heap.size 67 A n c ((chgAll t p month l).map (·.1)) ∧ w.grownBy w' none
set_option maxHeartbeats 8000000 in
set_option maxRecDepth 100000 in
theorem chargesOf_any (lo : Nat) (cA iA : Option Addr) (cn cc en ic : Nat) (free : Int) (cl : List ClV) (ins : List ByteArray) (P : Option Addr) (pn pc : Nat) (p : List PyV) (L : Option Addr) (ln lc : Nat) (l : List RcV) (month : Int) (w : World) (h : UseOk w lo ⟨cA, cn, cc, free, iA, en, ic, cl, ins⟩ P pn pc p L ln lc l) (hpn : pn ≤ 1000) (hfr : 0 ≤ free ∧ free ≤ 2592000000) :
    Calls Tryz.prog 45 #[.agg #[.slice cA cn cc, .int .i64 free, .slice iA en ic], .slice P pn pc, .slice L ln lc, .int .i64 month] w (ChargesOfV ⟨cA, cn, cc, free, iA, en, ic, cl, ins⟩ p month l w) := by
  have HUSE := Lib.hid h
  obtain ⟨htf, hpy, hrc, het, hep, her⟩ := h
  obtain ⟨hr1, hr2, hr3⟩ := rcs_right her
  obtain ⟨hsr, hnum⟩ := tar_right htf.2.1.len het
  have hln : ln ≤ 3000 := by rw [← hrc.1.len]; exact hr1
  have hen : en ≤ 1000 := htf.1.2.2.2
  have HRR := Lib.hid hr2; have HNU := Lib.hid hnum
  have HUB := Lib.hid (fun k s => used_bd (t := ⟨cA, cn, cc, free, iA, en, ic, cl, ins⟩) (p := p) (month := month) hfr.1 (fun r h => (hr2 r h).talk.1) k s)
  obtain ⟨f0, f1⟩ := hfr
  clear htf hpy hrc het hep her hr1 hr2 hr3 hsr hnum
  have hmm := @run_makeMap Tryz.prog
  go_enter Tryz.func45, Tryz.ntmps45
  go_wp2_with fail
  clear hmm
  have HT := Lib.hid (Blk.new w 29 #[.slice cA cn cc, .int .i64 free, .slice iA en ic])
  have HG1 := Lib.hid (gr_alloc (gr_refl w none) (.cells #[.slice cA cn cc, .int .i64 free, .slice iA en ic] 29))
  obtain ⟨w1, hw1⟩ : ∃ w1, w.alloc (.cells #[.slice cA cn cc, .int .i64 free, .slice iA en ic] 29) = w1 := ⟨_, rfl⟩
  rw [hw1] at HT HG1 ⊢
  obtain ⟨ub, hub⟩ : ∃ ub, w1.heap.size = ub := ⟨_, rfl⟩
  have e1 : w.heap.size + 1 = ub := by rw [← hub, ← hw1]; simp
  have HUBE := Lib.hid hub
  rw [e1]
  have z1 : w.heap.size + 1 ≤ ub := by omega
  have HSI0 := Lib.hid (show MapSI (w1.alloc (.map #[] 0)) ub 0 (fun _ => 0) by rw [← hub]; exact MapSI.new _)
  have HSZ := Lib.hid (show (w1.alloc (.map #[] 0)).heap.size = ub + 1 by rw [← hub]; simp)
  clear hw1 e1 hub
  go_loopw [9, 12, 13, 14, 15, 16, 20] (fun out _ _ _ _ _ t wr => ∃ (k m n c : Nat) (A : Option Addr), k ≤ ln ∧ t = .int .i64 k ∧ out = .slice A n c ∧ w.grownBy wr none ∧ (w1.alloc (.map #[] 0)).grownBy wr (some ub) ∧
    MapSI wr ub m (chgTo ⟨cA, cn, cc, free, iA, en, ic, cl, ins⟩ p month l k).2 ∧ m ≤ k ∧ OwnR ChV.row 5 wr (ub + 1) 67 A n c ((chgTo ⟨cA, cn, cc, free, iA, en, ic, cl, ins⟩ p month l k).1.map (·.1))) (fun _ _ _ _ _ _ t _ => ln - (intOf t).toNat)
  case atStart => exact ⟨0, 0, 0, 0, none, Nat.zero_le _, rfl, rfl, gr_alloc HG1.out _, gr_refl _ _, HSI0.out, Nat.le_refl _, OwnR.nil _ _ _⟩
  case round =>
    obtain ⟨k, m, n, c, A, hk, rfl, rfl, hg, hgb, hsi, hm, hown⟩ := hrel
    have zr := hgb.size; rw [HSZ.out] at zr
    have zg := hg.size
    have hnk : n ≤ k := by rw [← hown.2, List.length_map]; exact chgTo_len _ _ _ _ _
    have HG := Lib.hid hg; have HSI := Lib.hid hsi; have HO := Lib.hid hown
    have HTr := Lib.hid ((HT.out.alloc (.map #[] 0)).grown hgb (by simp; omega))
    have HGB := Lib.hid hgb
    clear hg hgb hsi hown
    by_cases hlt : k < ln
    · obtain ⟨g, o, ⟨id, frm, too, at_, ring, talk, how, car⟩, rfl, _, hgl, hz, hcc⟩ := (HUSE.out.rc.1.grown HG.out (fun g e => by cases e)).get RcV.row_len hlt
      obtain ⟨p1, p2, p3, p4, p5, p6⟩ := HUSE.out.rc.2 _ (mem_of_get hz)
      obtain ⟨t1, t2, hw, t3, t4, -, -⟩ := (HRR.out _ (mem_of_get hz)).talk
      dsimp only at p1 p2 p3 p4 p5 p6 t1 t2 t3 t4 hw
      have HW1 := Lib.hid hw; clear hw
      have HZ := Lib.hid hz; have HC := Lib.hid hcc; clear hz hcc
      obtain ⟨wa, hwa⟩ : ∃ wa, wr.alloc (.cells #[.string id, .string frm, .string too, .int .i64 at_, .int .i64 ring, .int .i64 talk, .int .i64 how, .string car] 69) = wa := ⟨_, rfl⟩
      have HR := Lib.hid (show Blk wa wr.heap.size 69 #[.string id, .string frm, .string too, .int .i64 at_, .int .i64 ring, .int .i64 talk, .int .i64 how, .string car] by rw [← hwa]; exact Blk.new _ _ _)
      have HGa := Lib.hid (show wr.grownBy wa none by rw [← hwa]; exact gr_alloc (gr_refl _ _) _)
      have HTa := Lib.hid (HTr.out.grown HGa.out (by simp))
      have HWA := Lib.hid hwa; clear hwa
      go_upto_region 6 with (first
        | (refine wpl_load_at Tryz.rcT rfl _ rfl _ rfl [.string id, .string frm, .string too, .int .i64 at_, .int .i64 ring, .int .i64 talk, .int .i64 how, .string car] rfl (fun j u hu => by rw [add_mk]; exact HC.out j u hu) ?_)
        | fail)
      rw [HWA.out]
      go_wp2_with (first
        | (refine wpl_load_all Tryz.rcT rfl _ rfl _ rfl _ _ HR.out rfl ?_)
        | (refine wpl_load_all Tryz.tfT rfl _ rfl _ rfl _ _ HTa.out rfl ?_)
        | fail)
      refine (paying_any lo cA iA cn cc en ic free cl ins P pn pc p id frm too at_ ring talk how car _ (HUSE.out.tf.grown (gr_none HG.out HGa.out) (fun g e => by cases e)) (HUSE.out.py.grown (gr_none HG.out HGa.out) (fun g e => by cases e)) hpn p3).mono ?_
      rintro e w3 ⟨rfl, hg3⟩
      obtain ⟨YS, hYS⟩ : ∃ YS, optS ((payerOf p (nb frm)).map (·.key)) = YS := ⟨_, rfl⟩
      obtain ⟨C, hC⟩ : ∃ C, clsOf cl (nb too) = C := ⟨_, rfl⟩
      obtain ⟨PB, hPB⟩ : ∃ PB, paidB ⟨cA, cn, cc, free, iA, en, ic, cl, ins⟩ p ⟨id, frm, too, at_, ring, talk, how, car⟩ = PB := ⟨_, rfl⟩
      obtain ⟨q0, q1, i1, i2, i3, i4, hrow⟩ := clsRow_is C
      rw [show payVal ⟨cA, cn, cc, free, iA, en, ic, cl, ins⟩ p ⟨id, frm, too, at_, ring, talk, how, car⟩ = .tuple #[.string YS, .agg #[.string q0, .string q1, .int .i64 i1, .int .i64 i2, .int .i64 i3, .int .i64 i4], .bool PB] by unfold payVal; rw [hPB]; dsimp only; rw [hYS, hC, hrow]]
      have HYS := Lib.hid hYS; have HCC := Lib.hid hC; have HPB := Lib.hid hPB; have HROW := Lib.hid hrow
      clear hYS hC hPB hrow
      have HG3 := Lib.hid (gr_none HGa.out hg3)
      obtain ⟨wb, hwb⟩ : ∃ wb, w3.alloc (.cells #[.string q0, .string q1, .int .i64 i1, .int .i64 i2, .int .i64 i3, .int .i64 i4] 61) = wb := ⟨_, rfl⟩
      have HK := Lib.hid (show Blk wb w3.heap.size 61 #[.string q0, .string q1, .int .i64 i1, .int .i64 i2, .int .i64 i3, .int .i64 i4] by rw [← hwb]; exact Blk.new _ _ _)
      have HGb := Lib.hid (show wr.grownBy wb none by rw [← hwb]; exact gr_alloc HG3.out _)
      have HRb := Lib.hid (show Blk wb wr.heap.size 69 #[.string id, .string frm, .string too, .int .i64 at_, .int .i64 ring, .int .i64 talk, .int .i64 how, .string car] by rw [← hwb]; exact (HR.out.grown hg3 (by simp)).alloc _)
      have zb := HGb.out.size
      have zk := HK.out.lt
      have z3 := HG3.out.size
      clear hg3
      go_upto_region 7 with (fail)
      clear hwb
      have k3 := HRb.out.cell 3
      have k6 := HRb.out.cell 6
      by_cases d1 : how = 1
      · have e1 : (how != 1) = false := by simpa using d1
        have D1 := Lib.hid (show talk ≠ 0 by have := HW1.out.1 d1; omega); clear d1
        by_cases d2 : at_ / 2592000000 = month
        · have e2 : (at_ / 2592000000 != month) = false := by simpa using d2
          have D2 := Lib.hid d2; clear d2
          cases PB
          · have HP := Lib.hid (paysFor_skip (t := ⟨cA, cn, cc, free, iA, en, ic, cl, ins⟩) (p := p) (month := month) (r := ⟨id, frm, too, at_, ring, talk, how, car⟩) (.inr (.inr (paidB_false (t := ⟨cA, cn, cc, free, iA, en, ic, cl, ins⟩) (p := p) (r := ⟨id, frm, too, at_, ring, talk, how, car⟩) HPB.out))))
            go_wp2_with fail
            go_roundw
            case rel => exact ⟨k + 1, m, n, c, A, by omega, by go_num, rfl, gr_none HG.out HGb.out, gr_none HGB.out HGb.out, by rw [chgTo_skip HZ.out HP.out]; exact HSI.out.kept HGb.out (by simp), by omega, by rw [chgTo_skip HZ.out HP.out]; exact HO.out.kept HGb.out (fun g e => by cases e)⟩
            case measure => simp [intOf]; omega
          · obtain ⟨⟨⟨key, nA, nn, nc, nums⟩, hpo⟩, ⟨pre, name, setup, first, step, rate⟩, hco⟩ := paidB_true HPB.out
            dsimp only at hpo hco
            have hC2 := HCC.out; rw [hco] at hC2; subst hC2
            have hY2 := HYS.out; rw [hpo] at hY2; replace hY2 : key = YS := hY2; subst hY2
            have hrow := HROW.out
            simp only [clsRow, Option.elim] at hrow
            simp only [Array.mk.injEq, List.cons.injEq, Value.string.injEq, Value.int.injEq, true_and, and_true] at hrow
            obtain ⟨rfl, rfl, rfl, rfl, rfl, rfl⟩ := hrow
            have hks : key.size ≤ 1000 := (HUSE.out.py.2 _ (List.mem_of_find?_eq_some hpo)).1.1
            have HP := Lib.hid (paysFor_full (t := ⟨cA, cn, cc, free, iA, en, ic, cl, ins⟩) (p := p) (month := month) (r := ⟨id, frm, too, at_, ring, talk, how, car⟩) D1.out D2.out hpo HCC.out)
            clear hpo hco HROW HPB HYS
            have k0 := HRb.out.cell 0
            have c1 := HK.out.cell 1
            go_upto_region 9 with (fail)
            obtain ⟨wc, hwc⟩ : ∃ wc, wb.alloc (.cells #[.string id, .string key, .string name, .int .i64 0, .int .i64 0] 67) = wc := ⟨_, rfl⟩
            have HX := Lib.hid (show Blk wc wb.heap.size 67 #[.string id, .string key, .string name, .int .i64 0, .int .i64 0] by rw [← hwc]; exact Blk.new _ _ _)
            have HGc := Lib.hid (show wr.grownBy wc none by rw [← hwc]; exact gr_alloc HGb.out _)
            have HRc := Lib.hid (show Blk wc wr.heap.size 69 #[.string id, .string frm, .string too, .int .i64 at_, .int .i64 ring, .int .i64 talk, .int .i64 how, .string car] by rw [← hwc]; exact HRb.out.alloc _)
            have HKc := Lib.hid (show Blk wc w3.heap.size 61 #[.string pre, .string name, .int .i64 setup, .int .i64 first, .int .i64 step, .int .i64 rate] by rw [← hwc]; exact HK.out.alloc _)
            have HTc := Lib.hid (HTr.out.grown HGc.out (by simp))
            have HSc := Lib.hid (HSI.out.kept HGc.out (by simp))
            rw [hwc]
            clear hwc k0 c1 k3 k6
            have kc1 := HKc.out.cell 1
            have tc1 := HTc.out.cell 1
            have tc2 := HTc.out.cell 2
            have rc5 := HRc.out.cell 5
            have xf3 := HX.out.frozen 3
            have xc3 := HX.out.cell 3
            obtain ⟨B, hB⟩ : ∃ B, ins.any (fun x => nb x == nb name) = B := ⟨_, rfl⟩
            have HB := Lib.hid hB
            obtain ⟨U, hU⟩ : ∃ U, (chgTo ⟨cA, cn, cc, free, iA, en, ic, cl, ins⟩ p month l k).2 key = U := ⟨_, rfl⟩
            obtain ⟨u0, u1⟩ := HUB.out k key
            rw [hU] at u0 u1
            have HU := Lib.hid hU
            have zc := HGc.out.size
            have zx := HX.out.lt
            have u2 : U ≤ free := u1
            clear u1
            clear hB hU
            cases B
            · have HFO := Lib.hid (show freeOf ⟨cA, cn, cc, free, iA, en, ic, cl, ins⟩ (chgTo ⟨cA, cn, cc, free, iA, en, ic, cl, ins⟩ p month l k).2 key ⟨pre, name, setup, first, step, rate⟩ ⟨id, frm, too, at_, ring, talk, how, car⟩ = 0 by unfold freeOf; dsimp only; rw [HB.out]; rfl)
              go_upto_region 12 with (first
                  | (go_at_call 63; refine (containsS_any lo _ _ _ ins name _ (by exact (HUSE.out.tf.grown (gr_none HG.out HGc.out) (fun g e => by cases e)).2.2) (by omega)).mono ?_; rintro e w' ⟨rfl, rfl⟩; rw [HB.out])
                  | (refine wpl_silook rfl _ _ rfl rfl key rfl (by unfold maxLen; omega) (by exact HSc.out) ?_; rw [HU.out])
                  | fail)
              obtain ⟨FR, hFR⟩ : ∃ FR : Int, FR = 0 := ⟨_, rfl⟩
              have HX2 := Lib.hid (show Blk wc wb.heap.size 67 #[.string id, .string key, .string name, .int .i64 FR, .int .i64 0] by rw [hFR]; exact HX.out)
              rw [← hFR] at HFO
              have hf0 : 0 ≤ FR := by omega
              have hf1 : FR ≤ talk := by omega
              have HGe := Lib.hid (show wr.grownBy wc (some ub) from gr_trans (gr_refl wr _) HGc.out (fun g e => by cases e))
              have HGe2 := Lib.hid (gr_none HG.out HGc.out)
              have HSe := Lib.hid (show MapSI wc ub m (addU (chgTo ⟨cA, cn, cc, free, iA, en, ic, cl, ins⟩ p month l k).2 key (freeOf ⟨cA, cn, cc, free, iA, en, ic, cl, ins⟩ (chgTo ⟨cA, cn, cc, free, iA, en, ic, cl, ins⟩ p month l k).2 key ⟨pre, name, setup, first, step, rate⟩ ⟨id, frm, too, at_, ring, talk, how, car⟩)) by
                rw [HFO.out, hFR, addU_zero]; exact HSc.out)
              clear kc1 tc1 tc2 rc5 xf3 xc3 hFR HSc HX
              have kc5 := HRc.out.cell 5
              have xc3 := HX2.out.cell 3
              have ze := HGe.out.size
              go_wp2_with (first
                | (refine wpl_load_all Tryz.clT rfl _ rfl _ rfl _ _ HKc.out rfl ?_)
                | fail)
              refine (priceFor_any ⟨pre, name, setup, first, step, rate⟩ (talk - FR) _ (HNU.out _ (clsOf_mem HCC.out)) (by omega) (by omega)).mono ?_
              rintro e w6 ⟨rfl, hg6⟩
              obtain ⟨PV, hPV⟩ : ∃ PV, priceOf ⟨pre, name, setup, first, step, rate⟩ (talk - FR) = PV := ⟨_, rfl⟩
              rw [hPV]
              have HPV := Lib.hid hPV
              have HX6 := Lib.hid (HX2.out.grown hg6 (by simp))
              have HG6 := Lib.hid (gr_none HGe.out hg6)
              have HG62 := Lib.hid (gr_none HGe2.out hg6)
              have HS6 := Lib.hid (HSe.out.kept hg6 (by simp))
              have z6 := hg6.size
              clear hg6 hPV kc5 xc3 HX2 HRc HKc HSe HGe HGe2
              have xf4 := HX6.out.frozen 4
              have xc4 := HX6.out.cell 4
              go_upto_region 13 with (fail)
              obtain ⟨w7, hw7⟩ : ∃ w7, w6.setCell ⟨wb.heap.size, 4, none⟩ (.int .i64 PV) = w7 := ⟨_, rfl⟩
              rw [hw7]
              have HX7 := Lib.hid (show Blk w7 wb.heap.size 67 #[.string id, .string key, .string name, .int .i64 FR, .int .i64 PV] by rw [← hw7]; exact HX6.out.set_ 4 _)
              have HG7 := Lib.hid (show wr.grownBy w7 (some ub) by rw [← hw7]; exact gr_setCell HG6.out (.inr (by show wr.heap.size ≤ wb.heap.size; omega)) _)
              have HG72 := Lib.hid (show w.grownBy w7 none by rw [← hw7]; exact gr_setCell HG62.out (.inr (by show w.heap.size ≤ wb.heap.size; omega)) _)
              have HS7 := Lib.hid (show MapSI w7 ub (m) _ by rw [← hw7]; exact HS6.out.kept (row := some wb.heap.size) (gr_setCell (gr_refl _ _) (.inl rfl) _) (by simp; omega))
              have HO7 := Lib.hid (HO.out.kept HG7.out (fun g e e2 => by have := (HO.out.1.lt e2).1; injection e with e; omega))
              have z7 := HG7.out.size
              clear xf4 xc4 hw7 HX6 HG6 HG62 HS6
              go_wp2_with (first
                | (refine wpl_load_all Tryz.chT rfl _ rfl _ rfl _ _ HX7.out rfl ?_)
                | (at_builtin
                   refine wpl_app _ rfl _ _ Tryz.chsT rfl (ub + 1) A n c _ rfl (by exact HO7.out.1.alloc _) _ _ 1 1 [.string id, .string key, .string name, .int .i64 FR, .int .i64 PV] rfl (by exact Reads.one _ _ _ _ rfl) (by simp [Value.oneCell']) (by unfold maxLen; omega) (by omega) (by simp; omega) ?_
                   intro A5 c5 w5 h5
                   have H5 := Lib.hid h5; clear h5)
                | fail)
              go_roundw
              case rel =>
                have hrow : (chgOf ⟨cA, cn, cc, free, iA, en, ic, cl, ins⟩ (chgTo ⟨cA, cn, cc, free, iA, en, ic, cl, ins⟩ p month l k).2 key ⟨pre, name, setup, first, step, rate⟩ ⟨id, frm, too, at_, ring, talk, how, car⟩).row = [.string id, .string key, .string name, .int .i64 FR, .int .i64 PV] := by
                  unfold chgOf ChV.row
                  dsimp only
                  rw [HFO.out, HPV.out]
                exact ⟨k + 1, m, n + 1, c5, A5, by omega, by go_num, rfl, H5.out.gr (gr_alloc HG72.out _) (HO7.out.1.alloc _) (by omega), H5.out.gr (gr_alloc (gr_same HGB.out HG7.out) _) (HO7.out.1.alloc _) (by rw [HSZ.out]; exact Nat.le_refl _), by rw [chgTo_add HZ.out HP.out]; exact (HS7.out.kept (gr_alloc (gr_refl _ none) _) (by simp)).kept H5.out.2.1 (fun e => by have := (HO7.out.1.lt e.symm).1; omega), by omega, by rw [chgTo_add HZ.out HP.out, List.map_append]; exact (HO7.out.alloc _).app rfl (by rw [hrow]; exact H5.out)⟩
              case measure => simp [intOf]; omega
            · go_upto_region 11 with (first
                  | (go_at_call 63; refine (containsS_any lo _ _ _ ins name _ (by exact (HUSE.out.tf.grown (gr_none HG.out HGc.out) (fun g e => by cases e)).2.2) (by omega)).mono ?_; rintro e w' ⟨rfl, rfl⟩; rw [HB.out])
                  | (refine wpl_silook rfl _ _ rfl rfl key rfl (by unfold maxLen; omega) (by exact HSc.out) ?_; rw [HU.out])
                  | fail)
              obtain ⟨FR, hFR⟩ : ∃ FR, min talk (free - U) = FR := ⟨_, rfl⟩
              rw [hFR]
              have hf0 : 0 ≤ FR := by omega
              have hf1 : FR ≤ talk := by omega
              have hf2 : U + FR ≤ 2592000000 := by omega
              have HFO := Lib.hid (show freeOf ⟨cA, cn, cc, free, iA, en, ic, cl, ins⟩ (chgTo ⟨cA, cn, cc, free, iA, en, ic, cl, ins⟩ p month l k).2 key ⟨pre, name, setup, first, step, rate⟩ ⟨id, frm, too, at_, ring, talk, how, car⟩ = FR by unfold freeOf; dsimp only; rw [HB.out, HU.out, if_pos rfl]; omega)
              obtain ⟨wd, hwd⟩ : ∃ wd, wc.setCell ⟨wb.heap.size, 3, none⟩ (.int .i64 FR) = wd := ⟨_, rfl⟩
              rw [hwd]
              have HXd := Lib.hid (show Blk wd wb.heap.size 67 #[.string id, .string key, .string name, .int .i64 FR, .int .i64 0] by rw [← hwd]; exact HX.out.set_ 3 _)
              have HGd := Lib.hid (show wr.grownBy wd none by rw [← hwd]; exact gr_setCell HGc.out (.inr (by show wr.heap.size ≤ wb.heap.size; omega)) _)
              have HRd := Lib.hid (show Blk wd wr.heap.size 69 #[.string id, .string frm, .string too, .int .i64 at_, .int .i64 ring, .int .i64 talk, .int .i64 how, .string car] by rw [← hwd]; exact HRc.out.far (by show wr.heap.size ≠ wb.heap.size; omega) _)
              have HKd := Lib.hid (show Blk wd w3.heap.size 61 #[.string pre, .string name, .int .i64 setup, .int .i64 first, .int .i64 step, .int .i64 rate] by rw [← hwd]; exact HKc.out.far (by show w3.heap.size ≠ wb.heap.size; omega) _)
              have HSd := Lib.hid (HSI.out.kept HGd.out (by simp))
              clear kc1 tc1 tc2 rc5 xf3 xc3 hFR hwd HSc HX HRc HKc HTc
              have x3 := HXd.out.cell 3
              go_upto_region 12 with (first
                | (refine wpl_silook rfl _ _ rfl rfl key rfl (by unfold maxLen; omega) (by exact HSd.out) ?_; rw [HU.out])
                | (at_mapUpdate
                   refine wpl_siput rfl _ _ _ rfl rfl key (U + FR) rfl rfl (by unfold maxLen; omega) (int_wf (by omega) (by omega)) (by exact HSd.out) (by unfold maxLen; omega) ?_
                   intro we hse hge
                   have HSe0 := Lib.hid hse; have HGe0 := Lib.hid hge
                   clear hse hge)
                | fail)
              clear x3
              have HX2 := Lib.hid (HXd.out.grown HGe0.out (by simp; omega))
              have HRc := Lib.hid (HRd.out.grown HGe0.out (by simp; omega))
              have HKc := Lib.hid (HKd.out.grown HGe0.out (by simp; omega))
              have HGe := Lib.hid (show wr.grownBy we (some ub) from gr_same (gr_trans (gr_refl wr (some ub)) HGd.out (fun g e => by cases e)) HGe0.out)
              have HGe2 := Lib.hid (gr_trans (gr_none HG.out HGd.out) HGe0.out (fun g e => .inr (by injection e with e; omega)))
              have HSe := Lib.hid (show MapSI we ub (m + 1) (addU (chgTo ⟨cA, cn, cc, free, iA, en, ic, cl, ins⟩ p month l k).2 key (freeOf ⟨cA, cn, cc, free, iA, en, ic, cl, ins⟩ (chgTo ⟨cA, cn, cc, free, iA, en, ic, cl, ins⟩ p month l k).2 key ⟨pre, name, setup, first, step, rate⟩ ⟨id, frm, too, at_, ring, talk, how, car⟩)) by
                rw [HFO.out]; have h := HSe0.out; rw [← HU.out] at h; exact h)
              clear HXd HRd HKd HSd HSe0 HGe0 HGd
              have kc5 := HRc.out.cell 5
              have xc3 := HX2.out.cell 3
              have ze := HGe.out.size
              go_wp2_with (first
                | (refine wpl_load_all Tryz.clT rfl _ rfl _ rfl _ _ HKc.out rfl ?_)
                | fail)
              refine (priceFor_any ⟨pre, name, setup, first, step, rate⟩ (talk - FR) _ (HNU.out _ (clsOf_mem HCC.out)) (by omega) (by omega)).mono ?_
              rintro e w6 ⟨rfl, hg6⟩
              obtain ⟨PV, hPV⟩ : ∃ PV, priceOf ⟨pre, name, setup, first, step, rate⟩ (talk - FR) = PV := ⟨_, rfl⟩
              rw [hPV]
              have HPV := Lib.hid hPV
              have HX6 := Lib.hid (HX2.out.grown hg6 (by simp))
              have HG6 := Lib.hid (gr_none HGe.out hg6)
              have HG62 := Lib.hid (gr_none HGe2.out hg6)
              have HS6 := Lib.hid (HSe.out.kept hg6 (by simp))
              have z6 := hg6.size
              clear hg6 hPV kc5 xc3 HX2 HRc HKc HSe HGe HGe2
              have xf4 := HX6.out.frozen 4
              have xc4 := HX6.out.cell 4
              go_upto_region 13 with (fail)
              obtain ⟨w7, hw7⟩ : ∃ w7, w6.setCell ⟨wb.heap.size, 4, none⟩ (.int .i64 PV) = w7 := ⟨_, rfl⟩
              rw [hw7]
              have HX7 := Lib.hid (show Blk w7 wb.heap.size 67 #[.string id, .string key, .string name, .int .i64 FR, .int .i64 PV] by rw [← hw7]; exact HX6.out.set_ 4 _)
              have HG7 := Lib.hid (show wr.grownBy w7 (some ub) by rw [← hw7]; exact gr_setCell HG6.out (.inr (by show wr.heap.size ≤ wb.heap.size; omega)) _)
              have HG72 := Lib.hid (show w.grownBy w7 none by rw [← hw7]; exact gr_setCell HG62.out (.inr (by show w.heap.size ≤ wb.heap.size; omega)) _)
              have HS7 := Lib.hid (show MapSI w7 ub (m + 1) _ by rw [← hw7]; exact HS6.out.kept (row := some wb.heap.size) (gr_setCell (gr_refl _ _) (.inl rfl) _) (by simp; omega))
              have HO7 := Lib.hid (HO.out.kept HG7.out (fun g e e2 => by have := (HO.out.1.lt e2).1; injection e with e; omega))
              have z7 := HG7.out.size
              clear xf4 xc4 hw7 HX6 HG6 HG62 HS6
              go_wp2_with (first
                | (refine wpl_load_all Tryz.chT rfl _ rfl _ rfl _ _ HX7.out rfl ?_)
                | (at_builtin
                   refine wpl_app _ rfl _ _ Tryz.chsT rfl (ub + 1) A n c _ rfl (by exact HO7.out.1.alloc _) _ _ 1 1 [.string id, .string key, .string name, .int .i64 FR, .int .i64 PV] rfl (by exact Reads.one _ _ _ _ rfl) (by simp [Value.oneCell']) (by unfold maxLen; omega) (by omega) (by simp; omega) ?_
                   intro A5 c5 w5 h5
                   have H5 := Lib.hid h5; clear h5)
                | fail)
              go_roundw
              case rel =>
                have hrow : (chgOf ⟨cA, cn, cc, free, iA, en, ic, cl, ins⟩ (chgTo ⟨cA, cn, cc, free, iA, en, ic, cl, ins⟩ p month l k).2 key ⟨pre, name, setup, first, step, rate⟩ ⟨id, frm, too, at_, ring, talk, how, car⟩).row = [.string id, .string key, .string name, .int .i64 FR, .int .i64 PV] := by
                  unfold chgOf ChV.row
                  dsimp only
                  rw [HFO.out, HPV.out]
                exact ⟨k + 1, m + 1, n + 1, c5, A5, by omega, by go_num, rfl, H5.out.gr (gr_alloc HG72.out _) (HO7.out.1.alloc _) (by omega), H5.out.gr (gr_alloc (gr_same HGB.out HG7.out) _) (HO7.out.1.alloc _) (by rw [HSZ.out]; exact Nat.le_refl _), by rw [chgTo_add HZ.out HP.out]; exact (HS7.out.kept (gr_alloc (gr_refl _ none) _) (by simp)).kept H5.out.2.1 (fun e => by have := (HO7.out.1.lt e.symm).1; omega), by omega, by rw [chgTo_add HZ.out HP.out, List.map_append]; exact (HO7.out.alloc _).app rfl (by rw [hrow]; exact H5.out)⟩
              case measure => simp [intOf]; omega
        · have e2 : (at_ / 2592000000 != month) = true := by simpa using d2
          have HP := Lib.hid (paysFor_skip (t := ⟨cA, cn, cc, free, iA, en, ic, cl, ins⟩) (p := p) (month := month) (r := ⟨id, frm, too, at_, ring, talk, how, car⟩) (.inr (.inl d2)))
          go_wp2_with fail
          go_roundw
          case rel => exact ⟨k + 1, m, n, c, A, by omega, by go_num, rfl, gr_none HG.out HGb.out, gr_none HGB.out HGb.out, by rw [chgTo_skip HZ.out HP.out]; exact HSI.out.kept HGb.out (by simp), by omega, by rw [chgTo_skip HZ.out HP.out]; exact HO.out.kept HGb.out (fun g e => by cases e)⟩
          case measure => simp [intOf]; omega
      · have e1 : (how != 1) = true := by simpa using d1
        have d3 : talk = 0 := by
          rcases Int.lt_or_eq_of_le t1 with h | h
          · exact absurd (HW1.out.2 h) d1
          · exact h.symm
        have HP := Lib.hid (paysFor_skip (t := ⟨cA, cn, cc, free, iA, en, ic, cl, ins⟩) (p := p) (month := month) (r := ⟨id, frm, too, at_, ring, talk, how, car⟩) (.inl d3))
        go_wp2_with fail
        go_roundw
        case rel => exact ⟨k + 1, m, n, c, A, by omega, by go_num, rfl, gr_none HG.out HGb.out, gr_none HGB.out HGb.out, by rw [chgTo_skip HZ.out HP.out]; exact HSI.out.kept HGb.out (by simp), by omega, by rw [chgTo_skip HZ.out HP.out]; exact HO.out.kept HGb.out (fun g e => by cases e)⟩
        case measure => simp [intOf]; omega
    · obtain rfl : k = ln := by omega
      go_wp2_with fail
      go_ret
      exact ⟨A, n, c, rfl, by unfold chgAll; rw [HUSE.out.rc.1.len]; exact HO.out.lower (by omega), HG.out⟩
end Go.Proofs.YtlkibeckfpjccaaGreatDoor

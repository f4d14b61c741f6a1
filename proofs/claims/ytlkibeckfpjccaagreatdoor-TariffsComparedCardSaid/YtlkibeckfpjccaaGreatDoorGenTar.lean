/- Contracts of the generators of tariffs. Conditions: none. -/
import Derived.Test.YtlkibeckfpjccaaGreatDoorGenPay
import Derived.Test.YtlkibeckfpjccaaGreatDoorBun2
import Derived.Test.YtlkibeckfpjccaaGreatDoorBun1
import Derived.Test.YtlkibeckfpjccaaGreatDoorTar4
import Derived.Deep.RegionLaw
namespace Go.Proofs.YtlkibeckfpjccaaGreatDoor
open Go.RowKit

def spRT (sb : Nat) : List (Nat × (Value → World → Prop)) :=
  [(4, SlOf sb 9 3 #[.string ⟨#[104, 111, 109, 101]⟩, .string ⟨#[110, 101, 97, 114]⟩, .string ⟨#[102, 97, 114]⟩]), (5, StrBd 4),
   (7, SlOf sb 3 4 #[.int .i64 0, .int .i64 0, .int .i64 1000, .int .i64 999]), (8, IntV),
   (10, SlOf sb 3 3 #[.int .i64 0, .int .i64 0, .int .i64 60000]), (11, IntV),
   (13, SlOf sb 3 3 #[.int .i64 1, .int .i64 1000, .int .i64 60000]), (14, IntV),
   (16, SlOf sb 3 4 #[.int .i64 0, .int .i64 1, .int .i64 10, .int .i64 500]), (17, IntV)]
theorem spRT_grown {sb k : Nat} {v : Value} {w w' : World} (h : RSpec (spRT sb) k v w) (hg : w.grownBy w' (some sb)) : RSpec (spRT sb) k v w' := by
  refine RSpec.grown (fun p hp v w w' h1 hg => ?_) h hg
  simp only [spRT, List.mem_cons, List.not_mem_nil, or_false] at hp
  rcases hp with rfl | rfl | rfl | rfl | rfl | rfl | rfl | rfl | rfl | rfl
  all_goals first | exact SlOf.grown h1 hg | exact h1
theorem names5 (k : Nat) (hk : k < 5) {w : World} {g : Nat} (h : Blk w g 9 #[.string ⟨#[]⟩, .string ⟨#[43, 52]⟩, .string ⟨#[43, 52, 57]⟩, .string ⟨#[43, 52, 57, 51, 48]⟩, .string ⟨#[43, 53]⟩]) : ∃ s : ByteArray, s.size ≤ 5 ∧ w.cell? ⟨g, k, none⟩ = some (.string s) := by
  rcases (by omega : k = 0 ∨ k = 1 ∨ k = 2 ∨ k = 3 ∨ k = 4) with rfl | rfl | rfl | rfl | rfl
  · exact ⟨_, by decide, h.cell 0⟩
  · exact ⟨_, by decide, h.cell 1⟩
  · exact ⟨_, by decide, h.cell 2⟩
  · exact ⟨_, by decide, h.cell 3⟩
  · exact ⟨_, by decide, h.cell 4⟩
theorem Tryz.clsT : ElemT Tryz.prog 26 61 6 64 (.agg #[.string ⟨#[]⟩, .string ⟨#[]⟩, .int .i64 0, .int .i64 0, .int .i64 0, .int .i64 0]) := elemT_of Tryz.underlying26 (by kernel_rfl) rfl (by decide)
/-- The classes of a tariff that a call makes, and its names. -/
structure GTf (w : World) (lo : Nat) (t : TfV) : Prop where
  bd : (∀ c ∈ t.cl, ClOk c) ∧ (∀ s ∈ t.ins, s.size ≤ 1000) ∧ t.cn ≤ 1000 ∧ t.en ≤ 1000
  cls : OwnR ClV.row 6 w lo 61 t.cA t.cn t.cc t.cl
  ins : OwnR srow 1 w lo 9 t.iA t.en t.ic t.ins
section
variable {w w' : World} {lo : Nat} {t : TfV}
theorem GTf.ok (h : GTf w lo t) : TfOk w lo t := ⟨h.bd, h.cls.recs, h.ins.recs⟩
theorem GTf.low (h : GTf w lo t) {r : Option Nat} (hg : w.grownBy w' r) (hr : ∀ g, r = some g → g < lo) : GTf w' lo t := ⟨h.bd, h.cls.low hg hr, h.ins.low hg hr⟩
theorem GTf.far (h : GTf w lo t) {g : Nat} {cs : Array Value} (hb : Blk w g 29 cs) (j : Nat) (u : Value) : GTf (w.setCell ⟨g, j, none⟩ u) lo t :=
  ⟨h.bd, ⟨h.cls.1.far (h.cls.1.blk_ne hb (by decide)) _, h.cls.2⟩, ⟨h.ins.1.far (h.ins.1.blk_ne hb (by decide)) _, h.ins.2⟩⟩
/-- A class is appended. -/
theorem GTf.app (h : GTf w lo t) {c : ClV} (hc : ClOk c) {n1 : Nat} (hn : n1 = t.cn + 1) (hb : n1 ≤ 1000) {A1 : Option Addr} {c1 : Nat}
    (h1 : Appended w lo 61 6 t.cA A1 n1 c1 (t.cl.flatMap ClV.row ++ c.row) w') : GTf w' lo { t with cA := A1, cn := n1, cc := c1, cl := t.cl ++ [c] } := by
  refine ⟨⟨fun x hx => ?_, h.bd.2.1, hb, h.bd.2.2.2⟩, h.cls.app hn h1, h.ins.kept h1.2.1 (fun g e => Own.ne h.cls.1 h.ins.1 (by decide) e)⟩
  rcases List.mem_append.1 hx with hx | hx
  · exact h.bd.1 x hx
  · rw [List.mem_singleton.1 hx]; exact hc
end
def IsTf (k lo : Nat) (v : Value) (w : World) : Prop := ∃ t : TfV, v = .agg #[.slice t.cA t.cn t.cc, .int .i64 t.free, .slice t.iA t.en t.ic] ∧ GTf w lo t ∧ t.cn ≤ k ∧ t.en ≤ 2
/-- What the third of a choice of names reads as. -/
theorem three_ins (w : World) (wx : World) {lo : Nat} (hlo : lo ≤ w.heap.size) {sb : Nat} (hsb : sb < w.heap.size) {a b c : ByteArray} (ha : a.size ≤ 1000) (hb : b.size ≤ 1000) (hc : c.size ≤ 1000)
    (hg : (((w.alloc (.cells #[.string a] 9)).alloc (.cells #[.string b, .string c] 9)).alloc (.cells #[.slice none 0 0, .slice (some ⟨w.heap.size, 0, none⟩) 1 1, .slice (some ⟨w.heap.size + 1, 0, none⟩) 2 2] 27)).grownBy wx (some sb)) (r : Nat) (hr : r < 3) :
    ∃ (iA : Option Addr) (en ic : Nat) (ins : List ByteArray), wx.cell? ⟨w.heap.size + 2, r, none⟩ = some (.slice iA en ic) ∧ OwnR srow 1 wx lo 9 iA en ic ins ∧ (∀ s ∈ ins, s.size ≤ 1000) ∧ en ≤ 2 := by
  have b3 := ((blkN ((w.alloc (.cells #[.string a] 9)).alloc (.cells #[.string b, .string c] 9)) 27 #[.slice none 0 0, .slice (some ⟨w.heap.size, 0, none⟩) 1 1, .slice (some ⟨w.heap.size + 1, 0, none⟩) 2 2] (g := w.heap.size + 2) (by simp)).grown hg (by simp; omega))
  have o1 := ((((Own.lit w 9 1 [.string a] 1 (by unfold maxLen; omega) rfl).alloc (.cells #[.string b, .string c] 9)).alloc (.cells #[.slice none 0 0, .slice (some ⟨w.heap.size, 0, none⟩) 1 1, .slice (some ⟨w.heap.size + 1, 0, none⟩) 2 2] 27)).kept hg (fun g e => by injection e with e; subst e; simp [blkOf]; omega)).lower hlo
  have o2' := Own.lit (w.alloc (.cells #[.string a] 9)) 9 1 [.string b, .string c] 2 (by unfold maxLen; omega) rfl
  rw [show (w.alloc (.cells #[.string a] 9)).heap.size = w.heap.size + 1 by simp] at o2'
  have o2 := ((o2'.alloc (.cells #[.slice none 0 0, .slice (some ⟨w.heap.size, 0, none⟩) 1 1, .slice (some ⟨w.heap.size + 1, 0, none⟩) 2 2] 27)).kept hg (fun g e => by injection e with e; subst e; simp [blkOf]; omega)).lower (lo' := lo) (by omega)
  rcases (by omega : r = 0 ∨ r = 1 ∨ r = 2) with rfl | rfl | rfl
  · exact ⟨none, 0, 0, [], b3.cell 0, OwnR.nil _ _ _, (fun s hs => by cases hs), by omega⟩
  · exact ⟨_, 1, 1, [a], b3.cell 1, ⟨o1, rfl⟩, (fun s hs => by rw [List.mem_singleton.1 hs]; exact ha), by omega⟩
  · refine ⟨_, 2, 2, [b, c], b3.cell 2, ⟨o2, rfl⟩, (fun s hs => ?_), by omega⟩
    simp only [List.mem_cons, List.not_mem_nil, or_false] at hs
    rcases hs with rfl | rfl
    · exact hb
    · exact hc
def RtRel (w : World) (sb tb : Nat) (m : Int) (free : Int) (t : Value) (wr : World) : Prop := ∃ (k : Nat) (tf : TfV), k ≤ 5 ∧ t = .int .i64 k ∧ tf.free = free ∧ Str wr sb (m + 30 * k) ∧ w.grownBy wr (some sb) ∧
  Blk wr w.heap.size 29 #[.slice none 0 0, .int .i64 0, .slice none 0 0] ∧ Blk wr tb 29 #[.slice tf.cA tf.cn tf.cc, .int .i64 tf.free, .slice tf.iA tf.en tf.ic] ∧
  Blk wr (tb + 1) 9 #[.string ⟨#[]⟩, .string ⟨#[43, 52]⟩, .string ⟨#[43, 52, 57]⟩, .string ⟨#[43, 52, 57, 51, 48]⟩, .string ⟨#[43, 53]⟩] ∧ GTf wr w.heap.size tf ∧ tf.cn ≤ k ∧ tf.en ≤ 2
set_option maxHeartbeats 8000000 in
set_option maxRecDepth 100000 in
theorem rightTariff_any (sb : Nat) (m : Int) (w : World) (hs : Str w sb m) (hm : m ≤ 100000000000) : Calls Tryz.prog 22 #[.pointer (some ⟨sb, 0, none⟩)] w (Drawn sb (m + 200) (IsTf 6 w.heap.size) w) := by
  have hlt := hs.lt
  have HS := Lib.hid hs; clear hs
  have HG := Lib.hid (gr_refl w (some sb))
  go_enter Tryz.func22, Tryz.ntmps22
  go_wp2_with fail
  have HR := Lib.hid (Blk.new w 29 #[.slice none 0 0, .int .i64 0, .slice none 0 0])
  refine (pick_new sb _ [0, 0, 60000, 90000] _ (by first | exact HS.out | exact HS.out.alloc _ | exact (HS.out.alloc _).alloc _ | exact ((HS.out.alloc _).alloc _).alloc _ | exact HS.out.drewN _ | exact HS.out.setCell (by simp; omega) _ | exact (HS.out.alloc _).setCell (by simp; omega) _ | exact (HS.out.setCell (by simp; omega) _).alloc _ | exact (HS.out.setCell (by simp; omega) _).drewN _ | exact (HS.out.alloc _).drewN _) (by omega) (by simp) rfl rfl (by simp) (by simp)).mono ?_
  rintro e w1 ⟨v1, rfl, ⟨r1, hr1, rfl⟩, hs1, hg1⟩
  replace HR := Lib.hid (HR.out.grown hg1 (by simp; omega))
  have z1 := hg1.size; (try simp at z1)
  replace HG := Lib.hid (gr_same (a := w) (by repeat (first | exact HG.out | refine gr_alloc ?_ _ | refine gr_drew ?_ | refine gr_drewN ?_ _ | refine gr_setCell ?_ (.inr (by simp; omega)) _)) hg1)
  replace HS := Lib.hid hs1; clear hs1 hg1 hr1
  go_wp2_with fail
  refine (next_any sb _ 3 _ (by first | exact HS.out | exact HS.out.alloc _ | exact (HS.out.alloc _).alloc _ | exact ((HS.out.alloc _).alloc _).alloc _ | exact HS.out.drewN _ | exact HS.out.setCell (by simp; omega) _ | exact (HS.out.alloc _).setCell (by simp; omega) _ | exact (HS.out.setCell (by simp; omega) _).alloc _ | exact (HS.out.setCell (by simp; omega) _).drewN _ | exact (HS.out.alloc _).drewN _) (by omega) (by omega) (by omega)).mono ?_
  rintro e w2 ⟨v2, rfl, ⟨r2, hlo2, hhi2, rfl⟩, hs2, hg2⟩
  obtain ⟨q, rfl⟩ : ∃ q : Nat, r2 = q := ⟨r2.toNat, by omega⟩
  have hq : q < 3 := by omega
  obtain ⟨iA, en, ic, ins, hcell, hins, hinb, hen⟩ := three_ins w1 w2 (lo := w.heap.size) (by omega) (by omega) (by decide) (by decide) (by decide) hg2 q hq
  have HI := Lib.hid hins; have HIB := Lib.hid hinb
  replace HR := Lib.hid ((((HR.out.alloc _).alloc _).alloc _).grown hg2 (by simp; omega))
  have z2 := hg2.size; (try simp at z2)
  replace HG := Lib.hid (gr_same (a := w) (by repeat (first | exact HG.out | refine gr_alloc ?_ _ | refine gr_drew ?_ | refine gr_drewN ?_ _ | refine gr_setCell ?_ (.inr (by simp; omega)) _)) hg2)
  replace HS := Lib.hid hs2; clear hs2 hg2 hins hinb
  go_wp2_with fail
  obtain ⟨tb, htb⟩ : ∃ tb, w2.heap.size = tb := ⟨_, rfl⟩
  have htb2 : w.heap.size < tb := by omega
  have HTB := Lib.hid htb; clear htb
  go_loopw [5, 19] (fun _ t wr => RtRel w sb w2.heap.size (m + 2) r1 t wr) (fun _ t _ => 5 - (intOf t).toNat)
  case atStart =>
    refine ⟨0, ⟨none, 0, 0, r1, iA, en, ic, [], ins⟩, by omega, rfl, rfl, ((HS.out.alloc _).alloc _).mono (by omega), gr_alloc (gr_alloc HG.out _) _, (HR.out.alloc _).alloc _, (Blk.new w2 _ _).alloc _, blkN _ _ _ (by simp), ⟨⟨(fun c hc => by cases hc), HIB.out, by dsimp only; omega, by dsimp only; omega⟩, OwnR.nil _ _ _, (HI.out.alloc _).alloc _⟩, by dsimp only; omega, hen⟩
  case round =>
    clear HS HG HR HI HIB hcell hen
    obtain ⟨k, ⟨cA, cn, cc, free, iA, en, ic, cl, ins⟩, hk, rfl, hfr, hs, hg, hr, hb, hnb, hgt, hcn, hen⟩ := hrel
    dsimp only at hfr hs hb hcn hen
    subst hfr
    have HS := Lib.hid hs; have HG := Lib.hid hg; have HR := Lib.hid hr; have HB := Lib.hid hb; have HN := Lib.hid hnb; have HGT := Lib.hid hgt
    have zr := hg.size
    have zn := hnb.lt
    clear hs hg hr hb hnb hgt
    by_cases hlt5 : k < 5
    · obtain ⟨ky, hky, hkc⟩ := names5 k hlt5 HN.out
      go_wp2_with fail
      refine (flip_any sb _ 3 _ HS.out (by omega) (by omega) (by omega)).mono ?_
      rintro e w4 ⟨v4, rfl, ⟨f4, rfl⟩, hs4, hg4⟩
      replace HR := Lib.hid (HR.out.grown hg4 (by simp; omega))
      replace HB := Lib.hid (HB.out.grown hg4 (by simp; omega))
      replace HN := Lib.hid (HN.out.grown hg4 (by simp; omega))
      replace HGT := Lib.hid (HGT.out.low hg4 (fun g e => by injection e with e; omega))
      replace HG := Lib.hid (gr_same (a := w) HG.out hg4)
      have z4 := hg4.size
      replace HS := Lib.hid hs4; clear hs4 hg4 hkc
      cases f4
      · have kt := HB.out.cell 0
        have htw : w2.heap.size < w4.heap.size := by omega
        go_wp2_with fail
        refine wp_region_E (fun w' => w'.cell? ⟨w2.heap.size, 0, none⟩ = some (.slice cA cn cc)) (by kernel_rfl) ?_
        have hHeld : w4.drew.cell? ⟨w2.heap.size, 0, none⟩ = some (.slice cA cn cc) := kt
        refine E_take (k := 0) (v := ?_) (by rfl) (by kernel_rfl) (by exact fun _ _ _ h => h) (by rfl) ?_ (by assumption) ?_
        rotate_left 1
        · intro w hSw
          (try dsimp only at hSw)
          go_simp
          (try with_reducible rfl)
        (try simp only [Act.put, List.setIfInBounds_toArray, List.set_cons_zero, List.set_cons_succ])
        refine E_take (k := 1) (v := ?_) (by rfl) (by kernel_rfl) (by exact fun _ _ _ h => h) (by rfl) ?_ (by assumption) ?_
        rotate_left 1
        · intro w hSw
          (try dsimp only at hSw)
          go_simp
          (try with_reducible rfl)
        (try simp only [Act.put, List.setIfInBounds_toArray, List.set_cons_zero, List.set_cons_succ])
        refine E_take (k := 2) (v := ?_) (by rfl) (by kernel_rfl) (by exact fun _ _ _ h => h) (by rfl) ?_ (by assumption) ?_
        rotate_left 1
        · intro w hSw
          (try dsimp only at hSw)
          go_simp
          (try with_reducible rfl)
        (try simp only [Act.put, List.setIfInBounds_toArray, List.set_cons_zero, List.set_cons_succ])
        refine E_take (k := 3) (v := ?_) (by rfl) (by kernel_rfl) (by exact fun _ _ _ h => h) (by rfl) ?_ (by assumption) ?_
        rotate_left 1
        · intro w hSw
          (try dsimp only at hSw)
          go_simp
          (try with_reducible rfl)
        (try simp only [Act.put, List.setIfInBounds_toArray, List.set_cons_zero, List.set_cons_succ])
        refine E_take (k := 6) (v := ?_) (by rfl) (by kernel_rfl) (by exact fun _ _ _ h => h) (by rfl) ?_ (by assumption) ?_
        rotate_left 1
        · intro w hSw
          (try dsimp only at hSw)
          go_simp
          (try with_reducible rfl)
        (try simp only [Act.put, List.setIfInBounds_toArray, List.set_cons_zero, List.set_cons_succ])
        refine E_take (k := 9) (v := ?_) (by rfl) (by kernel_rfl) (by exact fun _ _ _ h => h) (by rfl) ?_ (by assumption) ?_
        rotate_left 1
        · intro w hSw
          (try dsimp only at hSw)
          go_simp
          (try with_reducible rfl)
        (try simp only [Act.put, List.setIfInBounds_toArray, List.set_cons_zero, List.set_cons_succ])
        refine E_take (k := 12) (v := ?_) (by rfl) (by kernel_rfl) (by exact fun _ _ _ h => h) (by rfl) ?_ (by assumption) ?_
        rotate_left 1
        · intro w hSw
          (try dsimp only at hSw)
          go_simp
          (try with_reducible rfl)
        (try simp only [Act.put, List.setIfInBounds_toArray, List.set_cons_zero, List.set_cons_succ])
        refine E_take (k := 15) (v := ?_) (by rfl) (by kernel_rfl) (by exact fun _ _ _ h => h) (by rfl) ?_ (by assumption) ?_
        rotate_left 1
        · intro w hSw
          (try dsimp only at hSw)
          go_simp
          (try with_reducible rfl)
        (try simp only [Act.put, List.setIfInBounds_toArray, List.set_cons_zero, List.set_cons_succ])
        refine wpAnyE_calls (phase := [4, 5, 7, 8, 10, 11, 13, 14, 16, 17]) (T := 18) (fuel := 5) (n0 := 10) (fun k => k + 25) (RSpec (spRT sb)) (sb := sb) (m := m + 2 + 30 * k + 1) (by kernel_rfl) (by decide) ?hsz rfl HS.out.drew ?hdst (fun k v w w' h hg => spRT_grown h hg) ?hS ?hlaw ?hend
        case hsz => intro k hk; simp only [List.mem_cons, List.not_mem_nil, or_false] at hk; rcases hk with rfl | rfl | rfl | rfl | rfl | rfl | rfl | rfl | rfl | rfl <;> simp
        case hdst => intro k hk; simp only [List.mem_cons, List.not_mem_nil, or_false] at hk; rcases hk with rfl | rfl | rfl | rfl | rfl | rfl | rfl | rfl | rfl | rfl <;> exact ⟨_, rfl, rfl, rfl⟩
        case hS => intro w' hg; exact (HB.out.grown (gr_same (gr_drew (gr_refl _ _)) hg) (by simp; omega)).cell 0
        case hlaw =>
          intro q o a w' m' K hq ho hsame hdeps hs hm' hg hK
          have h0 := hs.lt
          have hf : ∀ j, (∀ i ∈ [4, 5, 7, 8, 10, 11, 13, 14, 16, 17], i + 25 ≠ j) → a.tmps[j]? = _ := fun j hj => hsame j hj
          simp only [List.mem_cons, List.not_mem_nil, or_false] at hq
          rcases hq with rfl | rfl | rfl | rfl | rfl | rfl | rfl | rfl | rfl | rfl
          · obtain rfl := Option.some.inj ho
            go_simp
            exact hK _ _ ⟨_, rfl, hs.lt, Blk.new _ _ _⟩ ((hs.alloc _).mono (by omega)) (gr_alloc (gr_refl _ _) _)
          · have e28 := hf 28 (by decide)
            obtain rfl := Option.some.inj ho
            obtain ⟨gq, hv, hgs, hbq⟩ : SlOf sb _ _ _ _ _ := hdeps ⟨4, .data⟩ (by simp) rfl (by simp)
            rw [Array.getD_eq_getD_getElem?] at hv
            go_simp
            refine (some_any sb m' 4 gq 3 _ w' hs (by omega) hbq (by omega) (by
              repeat (first | exact StrsOk.nil _ | refine StrsOk.cons (by decide) ?_)) rfl (by omega) (by omega)).mono ?_
            rintro e wq ⟨vq, rfl, hvq, hsq, hgq⟩
            exact hK vq wq hvq (hsq.mono (by omega)) hgq
          · obtain rfl := Option.some.inj ho
            go_simp
            exact hK _ _ ⟨_, rfl, hs.lt, Blk.new _ _ _⟩ ((hs.alloc _).mono (by omega)) (gr_alloc (gr_refl _ _) _)
          · have e31 := hf 31 (by decide)
            obtain rfl := Option.some.inj ho
            obtain ⟨gq, hv, hgs, hbq⟩ : SlOf sb _ _ _ _ _ := hdeps ⟨7, .data⟩ (by simp) rfl (by simp)
            rw [Array.getD_eq_getD_getElem?] at hv
            go_simp
            refine (pick_any sb m' gq 4 [0, 0, 1000, 999] w' hs (by omega) (by exact hbq) (by omega) rfl (by omega) (by omega)).mono ?_
            rintro e wq ⟨vq, rfl, ⟨rq, _, rfl⟩, hsq, hgq⟩
            exact hK _ wq ⟨rq, rfl⟩ (hsq.mono (by omega)) hgq
          · obtain rfl := Option.some.inj ho
            go_simp
            exact hK _ _ ⟨_, rfl, hs.lt, Blk.new _ _ _⟩ ((hs.alloc _).mono (by omega)) (gr_alloc (gr_refl _ _) _)
          · have e34 := hf 34 (by decide)
            obtain rfl := Option.some.inj ho
            obtain ⟨gq, hv, hgs, hbq⟩ : SlOf sb _ _ _ _ _ := hdeps ⟨10, .data⟩ (by simp) rfl (by simp)
            rw [Array.getD_eq_getD_getElem?] at hv
            go_simp
            refine (pick_any sb m' gq 3 [0, 0, 60000] w' hs (by omega) (by exact hbq) (by omega) rfl (by omega) (by omega)).mono ?_
            rintro e wq ⟨vq, rfl, ⟨rq, _, rfl⟩, hsq, hgq⟩
            exact hK _ wq ⟨rq, rfl⟩ (hsq.mono (by omega)) hgq
          · obtain rfl := Option.some.inj ho
            go_simp
            exact hK _ _ ⟨_, rfl, hs.lt, Blk.new _ _ _⟩ ((hs.alloc _).mono (by omega)) (gr_alloc (gr_refl _ _) _)
          · have e37 := hf 37 (by decide)
            obtain rfl := Option.some.inj ho
            obtain ⟨gq, hv, hgs, hbq⟩ : SlOf sb _ _ _ _ _ := hdeps ⟨13, .data⟩ (by simp) rfl (by simp)
            rw [Array.getD_eq_getD_getElem?] at hv
            go_simp
            refine (pick_any sb m' gq 3 [1, 1000, 60000] w' hs (by omega) (by exact hbq) (by omega) rfl (by omega) (by omega)).mono ?_
            rintro e wq ⟨vq, rfl, ⟨rq, _, rfl⟩, hsq, hgq⟩
            exact hK _ wq ⟨rq, rfl⟩ (hsq.mono (by omega)) hgq
          · obtain rfl := Option.some.inj ho
            go_simp
            exact hK _ _ ⟨_, rfl, hs.lt, Blk.new _ _ _⟩ ((hs.alloc _).mono (by omega)) (gr_alloc (gr_refl _ _) _)
          · have e40 := hf 40 (by decide)
            obtain rfl := Option.some.inj ho
            obtain ⟨gq, hv, hgs, hbq⟩ : SlOf sb _ _ _ _ _ := hdeps ⟨16, .data⟩ (by simp) rfl (by simp)
            rw [Array.getD_eq_getD_getElem?] at hv
            go_simp
            refine (pick_any sb m' gq 4 [0, 1, 10, 500] w' hs (by omega) (by exact hbq) (by omega) rfl (by omega) (by omega)).mono ?_
            rintro e wq ⟨vq, rfl, ⟨rq, _, rfl⟩, hsq, hgq⟩
            exact hK _ wq ⟨rq, rfl⟩ (hsq.mono (by omega)) hgq
        case hend =>
          intro vs w5 hR hs5 hg5
          obtain ⟨y, hy, hyb⟩ : StrBd 4 (vs 5) w5 := hR 5 (by simp)
          obtain ⟨z1, hz1⟩ : IntV (vs 8) w5 := hR 8 (by simp)
          obtain ⟨z2, hz2⟩ : IntV (vs 11) w5 := hR 11 (by simp)
          obtain ⟨z3, hz3⟩ : IntV (vs 14) w5 := hR 14 (by simp)
          obtain ⟨z4, hz4⟩ : IntV (vs 17) w5 := hR 17 (by simp)
          clear hR hHeld
          have hgx : w4.grownBy w5 (some sb) := gr_same (gr_drew (gr_refl _ _)) hg5
          have HB5 := Lib.hid (HB.out.grown hgx (by simp; omega))
          have HR5 := Lib.hid (HR.out.grown hgx (by simp; omega))
          have HN5 := Lib.hid (HN.out.grown hgx (by simp; omega))
          have HGT5 := Lib.hid (HGT.out.low hgx (fun g e => by injection e with e; omega))
          have HG5 := Lib.hid (gr_same HG.out hgx)
          have HS5 := Lib.hid hs5
          have z5 := hgx.size
          have htw5 : w2.heap.size < w5.heap.size := by omega
          have hHeld := HB5.out.cell 0
          clear hs5 hg5 hgx kt
          simp only [putAll, List.foldl_cons, List.foldl_nil, Act.put, Nat.reduceAdd, List.setIfInBounds_toArray, List.set_cons_zero, List.set_cons_succ, hy, hz1, hz2, hz3, hz4]
          clear hy hz1 hz2 hz3 hz4
          refine E_take (k := 18) (v := ?_) (by rfl) (by kernel_rfl) (by exact fun _ _ _ h => h) (by rfl) ?_ (by assumption) ?_
          rotate_left 1
          · intro w hSw
            (try dsimp only at hSw)
            go_simp
            (try with_reducible rfl)
          (try simp only [Act.put, List.setIfInBounds_toArray, List.set_cons_zero, List.set_cons_succ])
          refine E_run (k := 19) (by rfl) (by kernel_rfl) (by rfl) (fun K hK => ?_)
          go_simp
          refine hK _ _ (.inr (by go_keep)) ?_
          clear hK K hHeld
          have hHeld := (HB5.out.alloc (.cells #[.string ky, .string y, .int .i64 z1, .int .i64 z2, .int .i64 z3, .int .i64 z4] 61)).cell 0
          refine E_run (k := 20) (by rfl) (by kernel_rfl) (by rfl) (fun K hK => ?_)
          refine wp_app _ _ _ Tryz.clsT (by rfl) w.heap.size cA cn cc (cl.flatMap ClV.row) (by rfl) (by exact HGT5.out.cls.1.alloc _) _ _ 1 1 [.string ky, .string y, .int .i64 z1, .int .i64 z2, .int .i64 z3, .int .i64 z4] (by rfl) (by exact Reads.one _ _ _ _ rfl) (by simp [Value.oneCell']) (by unfold maxLen; omega) (by omega) (by simp; omega) ?_
          intro A1 c1 w8 h8
          have hb8 := (HB5.out.alloc (.cells #[.string ky, .string y, .int .i64 z1, .int .i64 z2, .int .i64 z3, .int .i64 z4] 61)).grown h8.2.1 (Ne.symm (HGT5.out.cls.1.blk_ne HB5.out (by decide)))
          have c8 := hb8.cell 0
          have f8 := hb8.frozen 0
          have H8 := Lib.hid h8
          have HB8 := Lib.hid hb8
          clear h8 hb8
          refine hK _ _ (.inr c8) ?_
          clear hK K hHeld
          have hHeld := c8
          refine E_take (k := 21) (v := ?_) (by rfl) (by kernel_rfl) (by exact fun _ _ _ h => h) (by rfl) ?_ (by assumption) ?_
          rotate_left 1
          · intro w hSw
            (try dsimp only at hSw)
            go_simp
            (try with_reducible rfl)
          (try simp only [Act.put, List.setIfInBounds_toArray, List.set_cons_zero, List.set_cons_succ])
          refine E_run (k := 22) (by rfl) (by kernel_rfl) (by rfl) (fun K hK => ?_)
          go_simp
          refine hK _ _ (.inl (by rfl)) ?_
          clear hK K hHeld
          refine E_done (by kernel_rfl) ?_
          go_wp2_with fail
          go_roundw
          case rel =>
            have hA := HGT5.out.low (gr_alloc (gr_refl _ none) (.cells #[.string ky, .string y, .int .i64 z1, .int .i64 z2, .int .i64 z3, .int .i64 z4] 61)) (fun g e => by cases e)
            have hne : ∀ g, blkOf cA = some g → sb < g := fun g e => by have := (hA.cls.1.lt e).1; omega
            refine ⟨k + 1, ⟨A1, cn + 1, c1, free, iA, en, ic, cl ++ [⟨ky, y, z1, z2, z3, z4⟩], ins⟩, by omega, by go_num, rfl, (((HS5.out.alloc _).grown H8.out.2.1 hne).setCell (by simp; omega) _).mono (by omega), gr_setCell (H8.out.gr (gr_alloc HG5.out _) hA.cls.1 (Nat.le_refl _)) (.inr (by simp; omega)) _, ?_, HB8.out.set_ 0 _, ?_, ?_, by dsimp only; omega, hen⟩
            · exact ((HR5.out.alloc _).grown H8.out.2.1 (Ne.symm (hA.cls.1.blk_ne (HR5.out.alloc _) (by decide)))).far (by simp; omega) _
            · exact ((HN5.out.alloc _).grown H8.out.2.1 (Ne.symm (hA.cls.1.blk_ne (HN5.out.alloc _) (by decide)))).far (by simp) _
            · exact (hA.app (c := ⟨ky, y, z1, z2, z3, z4⟩) ⟨by dsimp only; omega, by dsimp only; omega⟩ rfl (by dsimp only; omega) H8.out).far HB8.out 0 _
          case measure => simp [intOf]; omega
      · go_wp2_with fail
        go_roundw
        case rel => exact ⟨k + 1, ⟨cA, cn, cc, free, iA, en, ic, cl, ins⟩, by omega, by go_num, rfl, HS.out.mono (by omega), HG.out, HR.out, HB.out, HN.out, HGT.out, by dsimp only; omega, hen⟩
        case measure => simp [intOf]; omega
    · obtain rfl : k = 5 := by omega
      go_wp2_with (first
        | (refine wpl_load_all Tryz.tfT rfl _ rfl _ rfl _ _ HB.out rfl ?_)
        | (refine wpl_store_all Tryz.tfT rfl _ _ rfl _ rfl _ _ _ rfl HR.out rfl rfl (by simp [Value.oneCell']) ?_
           intro wz hst
           have HST := Lib.hid hst; clear hst)
        | fail)
      have hst := HST.out
      refine ret_cell Tryz.tfT rfl _ _ _ rfl hst.1 rfl rfl ?_
      have hgs : wr.grownBy wz (some w.heap.size) := hst.2.1
      refine ⟨_, rfl, ⟨⟨cA, cn, cc, free, iA, en, ic, cl, ins⟩, rfl, ⟨HGT.out.bd, HGT.out.cls.kept hgs (fun g e => by injection e with e; subst e; exact HGT.out.cls.1.blk_ne HR.out (by decide)), HGT.out.ins.kept hgs (fun g e => by injection e with e; subst e; exact HGT.out.ins.1.blk_ne HR.out (by decide))⟩, by dsimp only; omega, hen⟩, (HS.out.grown hgs (fun g e => by injection e with e; omega)).mono (by omega), gr_trans HG.out hgs (fun g e => .inr (by injection e with e; omega))⟩
theorem three_ins2 (w : World) (wx : World) {lo : Nat} (hlo : lo ≤ w.heap.size) {sb : Nat} (hsb : sb < w.heap.size) {a b c d e : ByteArray} (ha : a.size ≤ 1000) (hb : b.size ≤ 1000) (hc : c.size ≤ 1000) (hd : d.size ≤ 1000) (he : e.size ≤ 1000)
    (hg : ((((w.alloc (.cells #[.string a, .string b] 9)).alloc (.cells #[.string c] 9)).alloc (.cells #[.string d, .string e] 9)).alloc (.cells #[.slice (some ⟨w.heap.size, 0, none⟩) 2 2, .slice (some ⟨w.heap.size + 1, 0, none⟩) 1 1, .slice (some ⟨w.heap.size + 2, 0, none⟩) 2 2] 27)).grownBy wx (some sb)) (r : Nat) (hr : r < 3) :
    ∃ (iA : Option Addr) (en ic : Nat) (ins : List ByteArray), wx.cell? ⟨w.heap.size + 3, r, none⟩ = some (.slice iA en ic) ∧ OwnR srow 1 wx lo 9 iA en ic ins ∧ (∀ s ∈ ins, s.size ≤ 1000) ∧ en ≤ 2 := by
  have b3 := ((blkN (((w.alloc (.cells #[.string a, .string b] 9)).alloc (.cells #[.string c] 9)).alloc (.cells #[.string d, .string e] 9)) 27 #[.slice (some ⟨w.heap.size, 0, none⟩) 2 2, .slice (some ⟨w.heap.size + 1, 0, none⟩) 1 1, .slice (some ⟨w.heap.size + 2, 0, none⟩) 2 2] (g := w.heap.size + 3) (by simp)).grown hg (by simp; omega))
  have o1 := (((((Own.lit w 9 1 [.string a, .string b] 2 (by unfold maxLen; omega) rfl).alloc (.cells #[.string c] 9)).alloc (.cells #[.string d, .string e] 9)).alloc (.cells #[.slice (some ⟨w.heap.size, 0, none⟩) 2 2, .slice (some ⟨w.heap.size + 1, 0, none⟩) 1 1, .slice (some ⟨w.heap.size + 2, 0, none⟩) 2 2] 27)).kept hg (fun g e => by injection e with e; subst e; simp [blkOf]; omega)).lower hlo
  have o2' := Own.lit (w.alloc (.cells #[.string a, .string b] 9)) 9 1 [.string c] 1 (by unfold maxLen; omega) rfl
  rw [show (w.alloc (.cells #[.string a, .string b] 9)).heap.size = w.heap.size + 1 by simp] at o2'
  have o2 := (((o2'.alloc (.cells #[.string d, .string e] 9)).alloc (.cells #[.slice (some ⟨w.heap.size, 0, none⟩) 2 2, .slice (some ⟨w.heap.size + 1, 0, none⟩) 1 1, .slice (some ⟨w.heap.size + 2, 0, none⟩) 2 2] 27)).kept hg (fun g e => by injection e with e; subst e; simp [blkOf]; omega)).lower (lo' := lo) (by omega)
  have o3' := Own.lit ((w.alloc (.cells #[.string a, .string b] 9)).alloc (.cells #[.string c] 9)) 9 1 [.string d, .string e] 2 (by unfold maxLen; omega) rfl
  rw [show ((w.alloc (.cells #[.string a, .string b] 9)).alloc (.cells #[.string c] 9)).heap.size = w.heap.size + 2 by simp] at o3'
  have o3 := ((o3'.alloc (.cells #[.slice (some ⟨w.heap.size, 0, none⟩) 2 2, .slice (some ⟨w.heap.size + 1, 0, none⟩) 1 1, .slice (some ⟨w.heap.size + 2, 0, none⟩) 2 2] 27)).kept hg (fun g e => by injection e with e; subst e; simp [blkOf]; omega)).lower (lo' := lo) (by omega)
  rcases (by omega : r = 0 ∨ r = 1 ∨ r = 2) with rfl | rfl | rfl
  · refine ⟨_, 2, 2, [a, b], b3.cell 0, ⟨o1, rfl⟩, (fun s hs => ?_), by omega⟩
    simp only [List.mem_cons, List.not_mem_nil, or_false] at hs
    rcases hs with rfl | rfl
    · exact ha
    · exact hb
  · exact ⟨_, 1, 1, [c], b3.cell 1, ⟨o2, rfl⟩, (fun s hs => by rw [List.mem_singleton.1 hs]; exact hc), by omega⟩
  · refine ⟨_, 2, 2, [d, e], b3.cell 2, ⟨o3, rfl⟩, (fun s hs => ?_), by omega⟩
    simp only [List.mem_cons, List.not_mem_nil, or_false] at hs
    rcases hs with rfl | rfl
    · exact hd
    · exact he
def spTa (sb : Nat) : List (Nat × (Value → World → Prop)) :=
  [(3, SlOf sb 9 4 #[.string ⟨#[43, 57]⟩, .string ⟨#[57]⟩, .string ⟨#[43]⟩, .string ⟨#[43, 49, 97]⟩]), (4, StrBd 4),
   (6, SlOf sb 9 2 #[.string ⟨#[102, 97, 114]⟩, .string ⟨#[]⟩]), (7, StrBd 4), (9, IntV), (11, IntV), (13, IntV), (15, IntV)]
theorem spTa_grown {sb k : Nat} {v : Value} {w w' : World} (h : RSpec (spTa sb) k v w) (hg : w.grownBy w' (some sb)) : RSpec (spTa sb) k v w' := by
  refine RSpec.grown (fun p hp v w w' h1 hg => ?_) h hg
  simp only [spTa, List.mem_cons, List.not_mem_nil, or_false] at hp
  rcases hp with rfl | rfl | rfl | rfl | rfl | rfl | rfl | rfl
  all_goals first | exact SlOf.grown h1 hg | exact h1
set_option maxHeartbeats 8000000 in
set_option maxRecDepth 100000 in
theorem tariff_any (sb : Nat) (m : Int) (w : World) (hs : Str w sb m) (hm : m ≤ 10000000000) : Calls Tryz.prog 6 #[.pointer (some ⟨sb, 0, none⟩)] w (Drawn sb (m + 250) (IsTf 7 w.heap.size) w) := by
  have hlt := hs.lt
  have HS := Lib.hid hs; clear hs
  go_enter Tryz.func6, Tryz.ntmps6
  go_wp2_with fail
  have HG := Lib.hid (gr_alloc (gr_refl w (some sb)) (.cells #[.slice none 0 0, .int .i64 0, .slice none 0 0] 29))
  refine (rightTariff_any sb _ _ (HS.out.alloc _) (by omega)).mono ?_
  rintro e w1 ⟨v1, rfl, ⟨⟨cA, cn, cc, free, iA, en, ic, cl, ins⟩, rfl, hgt, hcn, hen⟩, hs1, hg1⟩
  have HGT := Lib.hid (show GTf w1 w.heap.size ⟨cA, cn, cc, free, iA, en, ic, cl, ins⟩ from ⟨hgt.bd, ⟨hgt.cls.1.lower (by simp), hgt.cls.2⟩, ⟨hgt.ins.1.lower (by simp), hgt.ins.2⟩⟩)
  have HR := Lib.hid ((Blk.new w 29 #[.slice none 0 0, .int .i64 0, .slice none 0 0]).grown hg1 (by simp; omega))
  replace HG := Lib.hid (gr_same HG.out hg1)
  replace HS := Lib.hid hs1
  have z1 := hg1.size; (try simp at z1)
  dsimp only at hcn hen
  clear hgt hs1 hg1
  -- the tariff in a variable of its own
  have HB := Lib.hid (Blk.new w1 29 #[.slice cA cn cc, .int .i64 free, .slice iA en ic])
  replace HGT := Lib.hid (HGT.out.low (gr_alloc (gr_refl _ none) (.cells #[.slice cA cn cc, .int .i64 free, .slice iA en ic] 29)) (fun g e => by cases e))
  replace HR := Lib.hid (HR.out.alloc (.cells #[.slice cA cn cc, .int .i64 free, .slice iA en ic] 29))
  replace HG := Lib.hid (gr_alloc HG.out (.cells #[.slice cA cn cc, .int .i64 free, .slice iA en ic] 29))
  replace HS := Lib.hid (HS.out.alloc (.cells #[.slice cA cn cc, .int .i64 free, .slice iA en ic] 29))
  dsimp only
  go_wp2_with fail
  refine (flip_any sb _ 12 _ HS.out (by omega) (by omega) (by omega)).mono ?_
  rintro e w2 ⟨v2, rfl, ⟨f2, rfl⟩, hs2, hg2⟩
  replace HB := Lib.hid (HB.out.grown hg2 (by simp; omega))
  replace HR := Lib.hid (HR.out.grown hg2 (by simp; omega))
  replace HGT := Lib.hid (HGT.out.low hg2 (fun g e => by injection e with e; omega))
  replace HG := Lib.hid (gr_same (a := w) HG.out hg2)
  have z2 := hg2.size
  replace HS := Lib.hid hs2; clear hs2 hg2
  simp at z2
  cases f2
  · go_wp2_with (first
      | (refine wpl_load_all Tryz.tfT rfl _ rfl _ rfl _ _ (HB.out) rfl ?_)
      | (refine wpl_store_all Tryz.tfT rfl _ _ rfl _ rfl _ _ _ rfl (HR.out) rfl rfl (by simp [Value.oneCell']) ?_
         intro wz hst
         have HST := Lib.hid hst; clear hst)
      | fail)
    have hst := HST.out
    refine ret_cell Tryz.tfT rfl _ _ _ rfl hst.1 rfl rfl ?_
    have hgs : (w2).grownBy wz (some w.heap.size) := hst.2.1
    have hgt := HGT.out
    refine ⟨_, rfl, ⟨⟨cA, cn, cc, free, iA, en, ic, cl, ins⟩, rfl, ⟨hgt.bd, hgt.cls.kept hgs (fun g e => by injection e with e; subst e; exact hgt.cls.1.blk_ne (HR.out) (by decide)), hgt.ins.kept hgs (fun g e => by injection e with e; subst e; exact hgt.ins.1.blk_ne (HR.out) (by decide))⟩, by dsimp only; omega, by dsimp only; omega⟩, (Str.grown (HS.out) hgs (fun g e => by injection e with e; omega)).mono (by omega), gr_trans (HG.out) hgs (fun g e => .inr (by injection e with e; omega))⟩
  · go_wp2_with fail
    refine (next_any sb _ 3 _ HS.out (by omega) (by omega) (by omega)).mono ?_
    rintro e w3 ⟨v3, rfl, ⟨r3, hlo3, hhi3, rfl⟩, hs3, hg3⟩
    replace HB := Lib.hid (HB.out.grown hg3 (by simp; omega))
    replace HR := Lib.hid (HR.out.grown hg3 (by simp; omega))
    replace HGT := Lib.hid (HGT.out.low hg3 (fun g e => by injection e with e; omega))
    replace HG := Lib.hid (gr_same (a := w) HG.out hg3)
    have z3 := hg3.size
    replace HS := Lib.hid hs3; clear hs3 hg3
    rcases (by omega : r3 = 0 ∨ r3 = 1 ∨ r3 = 2) with rfl | rfl | rfl
    · go_wp2_with fail
      refine (odd_any sb _ 0 100 _ HS.out (by omega) (by omega) (by omega) (by omega)).mono ?_
      rintro e w4 ⟨v4, rfl, ⟨r4, hlo4, hhi4, rfl⟩, hs4, hg4⟩
      replace HB := Lib.hid (HB.out.grown hg4 (by simp; omega))
      replace HR := Lib.hid (HR.out.grown hg4 (by simp; omega))
      replace HGT := Lib.hid (HGT.out.low hg4 (fun g e => by injection e with e; omega))
      replace HG := Lib.hid (gr_same (a := w) HG.out hg4)
      have z4 := hg4.size
      replace HS := Lib.hid hs4; clear hs4 hg4
      have cb := HB.out.cell 1
      have fb := HB.out.frozen 1
      have zb := HB.out.lt
      have HB5 := Lib.hid (HB.out.set_ 1 (.int .i64 r4))
      have HR5 := Lib.hid (HR.out.far (p := ⟨w1.heap.size, 1, none⟩) (by simp; omega) (.int .i64 r4))
      have HGT5 := Lib.hid (show GTf (w4.setCell ⟨w1.heap.size, 1, none⟩ (.int .i64 r4)) w.heap.size ⟨cA, cn, cc, r4, iA, en, ic, cl, ins⟩ from ⟨HGT.out.bd, (HGT.out.far HB.out 1 (.int .i64 r4)).cls, (HGT.out.far HB.out 1 (.int .i64 r4)).ins⟩)
      go_wp2_with (first
        | (refine wpl_load_all Tryz.tfT rfl _ rfl _ rfl _ _ (HB5.out) rfl ?_)
        | (refine wpl_store_all Tryz.tfT rfl _ _ rfl _ rfl _ _ _ rfl (HR5.out) rfl rfl (by simp [Value.oneCell']) ?_
           intro wz hst
           have HST := Lib.hid hst; clear hst)
        | fail)
      have hst := HST.out
      refine ret_cell Tryz.tfT rfl _ _ _ rfl hst.1 rfl rfl ?_
      have hgs : (w4.setCell ⟨w1.heap.size, 1, none⟩ (.int .i64 r4)).grownBy wz (some w.heap.size) := hst.2.1
      have hgt := HGT5.out
      refine ⟨_, rfl, ⟨⟨cA, cn, cc, r4, iA, en, ic, cl, ins⟩, rfl, ⟨hgt.bd, hgt.cls.kept hgs (fun g e => by injection e with e; subst e; exact hgt.cls.1.blk_ne (HR5.out) (by decide)), hgt.ins.kept hgs (fun g e => by injection e with e; subst e; exact hgt.ins.1.blk_ne (HR5.out) (by decide))⟩, by dsimp only; omega, by dsimp only; omega⟩, (Str.grown (HS.out.setCell (by simp; omega) _) hgs (fun g e => by injection e with e; omega)).mono (by omega), gr_trans (gr_setCell HG.out (.inr (by simp; omega)) _) hgs (fun g e => .inr (by injection e with e; omega))⟩
    · go_wp2_with fail
      refine (next_any sb _ 3 _ (by exact (((HS.out.alloc _).alloc _).alloc _).alloc _) (by omega) (by omega) (by omega)).mono ?_
      rintro e w4 ⟨v4, rfl, ⟨r4, hlo4, hhi4, rfl⟩, hs4, hg4⟩
      obtain ⟨q, rfl⟩ : ∃ q : Nat, r4 = q := ⟨r4.toNat, by omega⟩
      have hq : q < 3 := by omega
      obtain ⟨iA2, en2, ic2, ins2, hcell, hins, hinb, hen2⟩ := three_ins2 w3 w4 (lo := w.heap.size) (by omega) (by omega) (by decide) (by decide) (by decide) (by decide) (by decide) hg4 q hq
      have hg5 : w3.grownBy w4 (some sb) := gr_same (gr_alloc (gr_alloc (gr_alloc (gr_alloc (gr_refl _ _) _) _) _) _) hg4
      clear hg4
      have HI := Lib.hid hins; have HIB := Lib.hid hinb; clear hins hinb
      have hg4 := hg5; clear hg5
      replace HB := Lib.hid (HB.out.grown hg4 (by simp; omega))
      replace HR := Lib.hid (HR.out.grown hg4 (by simp; omega))
      replace HGT := Lib.hid (HGT.out.low hg4 (fun g e => by injection e with e; omega))
      replace HG := Lib.hid (gr_same (a := w) HG.out hg4)
      have z4 := hg4.size
      replace HS := Lib.hid hs4; clear hs4 hg4
      have cb := HB.out.cell 2
      have fb := HB.out.frozen 2
      have zb := HB.out.lt
      have HB5 := Lib.hid (HB.out.set_ 2 (.slice iA2 en2 ic2))
      have HR5 := Lib.hid (HR.out.far (p := ⟨w1.heap.size, 2, none⟩) (by simp; omega) (.slice iA2 en2 ic2))
      have HGT5 := Lib.hid (show GTf (w4.setCell ⟨w1.heap.size, 2, none⟩ (.slice iA2 en2 ic2)) w.heap.size ⟨cA, cn, cc, free, iA2, en2, ic2, cl, ins2⟩ from ⟨⟨HGT.out.bd.1, HIB.out, HGT.out.bd.2.2.1, by dsimp only; omega⟩, (HGT.out.far HB.out 2 _).cls, ⟨HI.out.1.far (HI.out.1.blk_ne HB.out (by decide)) _, HI.out.2⟩⟩)
      go_wp2_with (first
        | (refine wpl_load_all Tryz.tfT rfl _ rfl _ rfl _ _ (HB5.out) rfl ?_)
        | (refine wpl_store_all Tryz.tfT rfl _ _ rfl _ rfl _ _ _ rfl (HR5.out) rfl rfl (by simp [Value.oneCell']) ?_
           intro wz hst
           have HST := Lib.hid hst; clear hst)
        | fail)
      have hst := HST.out
      refine ret_cell Tryz.tfT rfl _ _ _ rfl hst.1 rfl rfl ?_
      have hgs : (w4.setCell ⟨w1.heap.size, 2, none⟩ (.slice iA2 en2 ic2)).grownBy wz (some w.heap.size) := hst.2.1
      have hgt := HGT5.out
      refine ⟨_, rfl, ⟨⟨cA, cn, cc, free, iA2, en2, ic2, cl, ins2⟩, rfl, ⟨hgt.bd, hgt.cls.kept hgs (fun g e => by injection e with e; subst e; exact hgt.cls.1.blk_ne (HR5.out) (by decide)), hgt.ins.kept hgs (fun g e => by injection e with e; subst e; exact hgt.ins.1.blk_ne (HR5.out) (by decide))⟩, by dsimp only; omega, by dsimp only; omega⟩, (Str.grown (HS.out.setCell (by simp; omega) _) hgs (fun g e => by injection e with e; omega)).mono (by omega), gr_trans (gr_setCell HG.out (.inr (by simp; omega)) _) hgs (fun g e => .inr (by injection e with e; omega))⟩
    · have kt := HB.out.cell 0
      have zb := HB.out.lt
      go_wp2_with fail
      refine wp_region_E (fun w' => w'.cell? ⟨w1.heap.size, 0, none⟩ = some (.slice cA cn cc)) (by kernel_rfl) ?_
      have hHeld : w3.drew.cell? ⟨w1.heap.size, 0, none⟩ = some (.slice cA cn cc) := kt
      refine E_take (k := 0) (v := ?_) (by rfl) (by kernel_rfl) (by exact fun _ _ _ h => h) (by rfl) ?_ (by assumption) ?_
      rotate_left 1
      · intro w hSw
        (try dsimp only at hSw)
        go_simp
        (try with_reducible rfl)
      (try simp only [Act.put, List.setIfInBounds_toArray, List.set_cons_zero, List.set_cons_succ])
      refine E_take (k := 1) (v := ?_) (by rfl) (by kernel_rfl) (by exact fun _ _ _ h => h) (by rfl) ?_ (by assumption) ?_
      rotate_left 1
      · intro w hSw
        (try dsimp only at hSw)
        go_simp
        (try with_reducible rfl)
      (try simp only [Act.put, List.setIfInBounds_toArray, List.set_cons_zero, List.set_cons_succ])
      refine E_take (k := 2) (v := ?_) (by rfl) (by kernel_rfl) (by exact fun _ _ _ h => h) (by rfl) ?_ (by assumption) ?_
      rotate_left 1
      · intro w hSw
        (try dsimp only at hSw)
        go_simp
        (try with_reducible rfl)
      (try simp only [Act.put, List.setIfInBounds_toArray, List.set_cons_zero, List.set_cons_succ])
      refine E_take (k := 5) (v := ?_) (by rfl) (by kernel_rfl) (by exact fun _ _ _ h => h) (by rfl) ?_ (by assumption) ?_
      rotate_left 1
      · intro w hSw
        (try dsimp only at hSw)
        go_simp
        (try with_reducible rfl)
      (try simp only [Act.put, List.setIfInBounds_toArray, List.set_cons_zero, List.set_cons_succ])
      refine E_take (k := 8) (v := ?_) (by rfl) (by kernel_rfl) (by exact fun _ _ _ h => h) (by rfl) ?_ (by assumption) ?_
      rotate_left 1
      · intro w hSw
        (try dsimp only at hSw)
        go_simp
        (try with_reducible rfl)
      (try simp only [Act.put, List.setIfInBounds_toArray, List.set_cons_zero, List.set_cons_succ])
      refine E_take (k := 10) (v := ?_) (by rfl) (by kernel_rfl) (by exact fun _ _ _ h => h) (by rfl) ?_ (by assumption) ?_
      rotate_left 1
      · intro w hSw
        (try dsimp only at hSw)
        go_simp
        (try with_reducible rfl)
      (try simp only [Act.put, List.setIfInBounds_toArray, List.set_cons_zero, List.set_cons_succ])
      refine E_take (k := 12) (v := ?_) (by rfl) (by kernel_rfl) (by exact fun _ _ _ h => h) (by rfl) ?_ (by assumption) ?_
      rotate_left 1
      · intro w hSw
        (try dsimp only at hSw)
        go_simp
        (try with_reducible rfl)
      (try simp only [Act.put, List.setIfInBounds_toArray, List.set_cons_zero, List.set_cons_succ])
      refine E_take (k := 14) (v := ?_) (by rfl) (by kernel_rfl) (by exact fun _ _ _ h => h) (by rfl) ?_ (by assumption) ?_
      rotate_left 1
      · intro w hSw
        (try dsimp only at hSw)
        go_simp
        (try with_reducible rfl)
      (try simp only [Act.put, List.setIfInBounds_toArray, List.set_cons_zero, List.set_cons_succ])
      refine wpAnyE_calls (phase := [3, 4, 6, 7, 9, 11, 13, 15]) (T := 16) (fuel := 5) (n0 := 8) (fun k => k + 10) (RSpec (spTa sb)) (sb := sb) (m := m + 200 + 1 + 1) (by kernel_rfl) (by decide) ?hsz rfl HS.out.drew ?hdst (fun k v w w' h hg => spTa_grown h hg) ?hS ?hlaw ?hend
      case hsz => intro k hk; simp only [List.mem_cons, List.not_mem_nil, or_false] at hk; rcases hk with rfl | rfl | rfl | rfl | rfl | rfl | rfl | rfl <;> simp
      case hdst => intro k hk; simp only [List.mem_cons, List.not_mem_nil, or_false] at hk; rcases hk with rfl | rfl | rfl | rfl | rfl | rfl | rfl | rfl <;> exact ⟨_, rfl, rfl, rfl⟩
      case hS => intro w' hg; exact (HB.out.grown (gr_same (gr_drew (gr_refl _ _)) hg) (by simp; omega)).cell 0
      case hlaw =>
        intro q o a w' m' K hq ho hsame hdeps hs hm' hg hK
        have h0 := hs.lt
        have hf : ∀ j, (∀ i ∈ [3, 4, 6, 7, 9, 11, 13, 15], i + 10 ≠ j) → a.tmps[j]? = _ := fun j hj => hsame j hj
        simp only [List.mem_cons, List.not_mem_nil, or_false] at hq
        rcases hq with rfl | rfl | rfl | rfl | rfl | rfl | rfl | rfl
        · obtain rfl := Option.some.inj ho
          go_simp
          exact hK _ _ ⟨_, rfl, hs.lt, Blk.new _ _ _⟩ ((hs.alloc _).mono (by omega)) (gr_alloc (gr_refl _ _) _)
        · have e12 := hf 12 (by decide)
          obtain rfl := Option.some.inj ho
          obtain ⟨gq, hv, hgs, hbq⟩ : SlOf sb _ _ _ _ _ := hdeps ⟨3, .data⟩ (by simp) rfl (by simp)
          rw [Array.getD_eq_getD_getElem?] at hv
          go_simp
          refine (some_any sb m' 4 gq 4 _ w' hs (by omega) hbq (by omega) (by
            repeat (first | exact StrsOk.nil _ | refine StrsOk.cons (by decide) ?_)) rfl (by omega) (by omega)).mono ?_
          rintro e wq ⟨vq, rfl, hvq, hsq, hgq⟩
          exact hK vq wq hvq (hsq.mono (by omega)) hgq
        · obtain rfl := Option.some.inj ho
          go_simp
          exact hK _ _ ⟨_, rfl, hs.lt, Blk.new _ _ _⟩ ((hs.alloc _).mono (by omega)) (gr_alloc (gr_refl _ _) _)
        · have e15 := hf 15 (by decide)
          obtain rfl := Option.some.inj ho
          obtain ⟨gq, hv, hgs, hbq⟩ : SlOf sb _ _ _ _ _ := hdeps ⟨6, .data⟩ (by simp) rfl (by simp)
          rw [Array.getD_eq_getD_getElem?] at hv
          go_simp
          refine (some_any sb m' 4 gq 2 _ w' hs (by omega) hbq (by omega) (by
            repeat (first | exact StrsOk.nil _ | refine StrsOk.cons (by decide) ?_)) rfl (by omega) (by omega)).mono ?_
          rintro e wq ⟨vq, rfl, hvq, hsq, hgq⟩
          exact hK vq wq hvq (hsq.mono (by omega)) hgq
        · have e18 := hf 18 (by decide)
          obtain rfl := Option.some.inj ho
          go_simp
          refine (odd_any sb m' 0 1000 w' hs (by omega) (by omega) (by omega) (by omega)).mono ?_
          rintro e wq ⟨vq, rfl, ⟨rq, _, _, rfl⟩, hsq, hgq⟩
          exact hK _ wq ⟨rq, rfl⟩ (hsq.mono (by omega)) hgq
        · have e20 := hf 20 (by decide)
          obtain rfl := Option.some.inj ho
          go_simp
          refine (odd_any sb m' 0 100 w' hs (by omega) (by omega) (by omega) (by omega)).mono ?_
          rintro e wq ⟨vq, rfl, ⟨rq, _, _, rfl⟩, hsq, hgq⟩
          exact hK _ wq ⟨rq, rfl⟩ (hsq.mono (by omega)) hgq
        · have e22 := hf 22 (by decide)
          obtain rfl := Option.some.inj ho
          go_simp
          refine (odd_any sb m' 1 100 w' hs (by omega) (by omega) (by omega) (by omega)).mono ?_
          rintro e wq ⟨vq, rfl, ⟨rq, _, _, rfl⟩, hsq, hgq⟩
          exact hK _ wq ⟨rq, rfl⟩ (hsq.mono (by omega)) hgq
        · have e24 := hf 24 (by decide)
          obtain rfl := Option.some.inj ho
          go_simp
          refine (odd_any sb m' 0 1000000 w' hs (by omega) (by omega) (by omega) (by omega)).mono ?_
          rintro e wq ⟨vq, rfl, ⟨rq, _, _, rfl⟩, hsq, hgq⟩
          exact hK _ wq ⟨rq, rfl⟩ (hsq.mono (by omega)) hgq
      case hend =>
        intro vs w5 hR hs5 hg5
        obtain ⟨y1, hy1, hyb1⟩ : StrBd 4 (vs 4) w5 := hR 4 (by simp)
        obtain ⟨y2, hy2, hyb2⟩ : StrBd 4 (vs 7) w5 := hR 7 (by simp)
        obtain ⟨z1, hz1⟩ : IntV (vs 9) w5 := hR 9 (by simp)
        obtain ⟨z2, hz2⟩ : IntV (vs 11) w5 := hR 11 (by simp)
        obtain ⟨z3, hz3⟩ : IntV (vs 13) w5 := hR 13 (by simp)
        obtain ⟨z4, hz4⟩ : IntV (vs 15) w5 := hR 15 (by simp)
        clear hR hHeld
        have hgx : w3.grownBy w5 (some sb) := gr_same (gr_drew (gr_refl _ _)) hg5
        have HB5 := Lib.hid (HB.out.grown hgx (by simp; omega))
        have HR5 := Lib.hid (HR.out.grown hgx (by simp; omega))
        have HGT5 := Lib.hid (HGT.out.low hgx (fun g e => by injection e with e; omega))
        have HG5 := Lib.hid (gr_same HG.out hgx)
        have HS5 := Lib.hid hs5
        have z5 := hgx.size
        have htw5 : w1.heap.size < w5.heap.size := by omega
        have hHeld := HB5.out.cell 0
        clear hs5 hg5 hgx kt
        simp only [putAll, List.foldl_cons, List.foldl_nil, Act.put, Nat.reduceAdd, List.setIfInBounds_toArray, List.set_cons_zero, List.set_cons_succ, hy1, hy2, hz1, hz2, hz3, hz4]
        clear hy1 hy2 hz1 hz2 hz3 hz4
        refine E_take (k := 16) (v := ?_) (by rfl) (by kernel_rfl) (by exact fun _ _ _ h => h) (by rfl) ?_ (by assumption) ?_
        rotate_left 1
        · intro w hSw
          (try dsimp only at hSw)
          go_simp
          (try with_reducible rfl)
        (try simp only [Act.put, List.setIfInBounds_toArray, List.set_cons_zero, List.set_cons_succ])
        refine E_run (k := 17) (by rfl) (by kernel_rfl) (by rfl) (fun K hK => ?_)
        go_simp
        refine hK _ _ (.inr (by go_keep)) ?_
        clear hK K hHeld
        have hHeld := (HB5.out.alloc (.cells #[.string y1, .string y2, .int .i64 z1, .int .i64 z2, .int .i64 z3, .int .i64 z4] 61)).cell 0
        refine E_run (k := 18) (by rfl) (by kernel_rfl) (by rfl) (fun K hK => ?_)
        refine wp_app _ _ _ Tryz.clsT (by rfl) w.heap.size cA cn cc (cl.flatMap ClV.row) (by rfl) (by exact HGT5.out.cls.1.alloc _) _ _ 1 1 [.string y1, .string y2, .int .i64 z1, .int .i64 z2, .int .i64 z3, .int .i64 z4] (by rfl) (by exact Reads.one _ _ _ _ rfl) (by simp [Value.oneCell']) (by unfold maxLen; omega) (by omega) (by simp; omega) ?_
        intro A1 c1 w8 h8
        have hb8 := (HB5.out.alloc (.cells #[.string y1, .string y2, .int .i64 z1, .int .i64 z2, .int .i64 z3, .int .i64 z4] 61)).grown h8.2.1 (Ne.symm (HGT5.out.cls.1.blk_ne HB5.out (by decide)))
        have c8 := hb8.cell 0
        have f8 := hb8.frozen 0
        have H8 := Lib.hid h8
        have HB8 := Lib.hid hb8
        have z8 := h8.2.1.size; (try simp at z8)
        clear h8 hb8
        refine hK _ _ (.inr c8) ?_
        clear hK K hHeld
        have hHeld := c8
        refine E_take (k := 19) (v := ?_) (by rfl) (by kernel_rfl) (by exact fun _ _ _ h => h) (by rfl) ?_ (by assumption) ?_
        rotate_left 1
        · intro w hSw
          (try dsimp only at hSw)
          go_simp
          (try with_reducible rfl)
        (try simp only [Act.put, List.setIfInBounds_toArray, List.set_cons_zero, List.set_cons_succ])
        refine E_run (k := 20) (by rfl) (by kernel_rfl) (by rfl) (fun K hK => ?_)
        go_simp
        refine hK _ _ (.inl (by rfl)) ?_
        clear hK K hHeld
        refine E_done (by kernel_rfl) ?_
        have hA := HGT5.out.low (gr_alloc (gr_refl _ none) (.cells #[.string y1, .string y2, .int .i64 z1, .int .i64 z2, .int .i64 z3, .int .i64 z4] 61)) (fun g e => by cases e)
        have hne : ∀ g, blkOf cA = some g → sb < g := fun g e => by have := (hA.cls.1.lt e).1; omega
        have HS9 := Lib.hid (((HS5.out.alloc (.cells #[.string y1, .string y2, .int .i64 z1, .int .i64 z2, .int .i64 z3, .int .i64 z4] 61)).grown H8.out.2.1 hne).setCell (p := ⟨w1.heap.size, 0, none⟩) (by simp; omega) (.slice A1 (cn + 1) c1))
        have HG9 := Lib.hid (gr_setCell (H8.out.gr (gr_alloc HG5.out (.cells #[.string y1, .string y2, .int .i64 z1, .int .i64 z2, .int .i64 z3, .int .i64 z4] 61)) hA.cls.1 (Nat.le_refl _)) (p := ⟨w1.heap.size, 0, none⟩) (.inr (by simp; omega)) (.slice A1 (cn + 1) c1))
        have HR9 := Lib.hid ((((HR5.out.alloc (.cells #[.string y1, .string y2, .int .i64 z1, .int .i64 z2, .int .i64 z3, .int .i64 z4] 61)).grown H8.out.2.1 (Ne.symm (hA.cls.1.blk_ne (HR5.out.alloc _) (by decide)))).far (p := ⟨w1.heap.size, 0, none⟩) (by simp; omega) (.slice A1 (cn + 1) c1)))
        have HB9 := Lib.hid (HB8.out.set_ 0 (.slice A1 (cn + 1) c1))
        have HGT9 := Lib.hid ((hA.app (c := ⟨y1, y2, z1, z2, z3, z4⟩) ⟨by dsimp only; omega, by dsimp only; omega⟩ rfl (by dsimp only; omega) H8.out).far HB8.out 0 (.slice A1 (cn + 1) c1))
        clear hA hne c8 f8
        go_wp2_with (first
          | (refine wpl_load_all Tryz.tfT rfl _ rfl _ rfl _ _ (HB9.out) rfl ?_)
          | (refine wpl_store_all Tryz.tfT rfl _ _ rfl _ rfl _ _ _ rfl (HR9.out) rfl rfl (by simp [Value.oneCell']) ?_
             intro wz hst
             have HST := Lib.hid hst; clear hst)
          | fail)
        have hst := HST.out
        refine ret_cell Tryz.tfT rfl _ _ _ rfl hst.1 rfl rfl ?_
        have hgs : (w8.setCell ⟨w1.heap.size, 0, none⟩ (.slice A1 (cn + 1) c1)).grownBy wz (some w.heap.size) := hst.2.1
        have hgt := HGT9.out
        refine ⟨_, rfl, ⟨⟨A1, cn + 1, c1, free, iA, en, ic, cl ++ [⟨y1, y2, z1, z2, z3, z4⟩], ins⟩, rfl, ⟨hgt.bd, hgt.cls.kept hgs (fun g e => by injection e with e; subst e; exact hgt.cls.1.blk_ne (HR9.out) (by decide)), hgt.ins.kept hgs (fun g e => by injection e with e; subst e; exact hgt.ins.1.blk_ne (HR9.out) (by decide))⟩, by dsimp only; omega, by dsimp only; omega⟩, (Str.grown (HS9.out) hgs (fun g e => by injection e with e; omega)).mono (by omega), gr_trans (HG9.out) hgs (fun g e => .inr (by injection e with e; omega))⟩
end Go.Proofs.YtlkibeckfpjccaaGreatDoor

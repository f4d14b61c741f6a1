/- The generator of right tariffs: they are right. Conditions: none. -/
import Derived.Test.YtfakdalpaopjaaaGreatDoorGenTar
import Derived.Test.YtfakdalpaopjaaaGreatDoorBun1
import Derived.Test.YtfakdalpaopjaaaGreatDoorGenHouR
namespace Go.Proofs.YtfakdalpaopjaaaGreatDoor
open Go.RowKit

theorem inB_mem (l : List Int) {lo hi : Int} (h : (l.all fun x => inB x lo hi) = true) {x : Int} (hx : x ∈ l) : inB x lo hi = true := List.all_eq_true.1 h x hx
/-- The prefixes in their order. -/
def pfN : Nat → ByteArray
  | 0 => ⟨#[]⟩
  | 1 => ⟨#[43, 52]⟩
  | 2 => ⟨#[43, 52, 57]⟩
  | 3 => ⟨#[43, 52, 57, 51, 48]⟩
  | _ => ⟨#[43, 53]⟩
theorem pfN_ok (k : Nat) (h : k < 5) : pfOk (nb (pfN k)) = true := by
  rcases (by omega : k = 0 ∨ k = 1 ∨ k = 2 ∨ k = 3 ∨ k = 4) with rfl | rfl | rfl | rfl | rfl <;> decide +kernel
theorem pfN_lt (j k : Nat) (h : j < k) (hk : k < 5) : leS (pfN k) (pfN j) = false := by
  rcases (by omega : (k = 1 ∧ j = 0) ∨ (k = 2 ∧ j = 0) ∨ (k = 2 ∧ j = 1) ∨ (k = 3 ∧ j = 0) ∨ (k = 3 ∧ j = 1) ∨ (k = 3 ∧ j = 2) ∨ (k = 4 ∧ j = 0) ∨ (k = 4 ∧ j = 1) ∨ (k = 4 ∧ j = 2) ∨ (k = 4 ∧ j = 3)) with ⟨rfl, rfl⟩ | ⟨rfl, rfl⟩ | ⟨rfl, rfl⟩ | ⟨rfl, rfl⟩ | ⟨rfl, rfl⟩ | ⟨rfl, rfl⟩ | ⟨rfl, rfl⟩ | ⟨rfl, rfl⟩ | ⟨rfl, rfl⟩ | ⟨rfl, rfl⟩ <;> decide +kernel
def NmQ (s : ByteArray) : Prop := keyOk (nb s) = true ∧ s.size ≤ 4
instance (s : ByteArray) : Decidable (NmQ s) := by unfold NmQ; infer_instance
theorem clNum_of {c : ClV} (h1 : inB c.setup 0 1000000 = true) (h2 : inB c.rate 0 1000000 = true) (h3 : inB c.first 0 86400000 = true) (h4 : inB c.step 1 86400000 = true) : clNum c = true := by
  unfold clNum; rw [h1, h2, h3, h4]; rfl
/-- What is known of a tariff of which the first k prefixes were looked at. -/
structure TfG (k : Nat) (t : TfV) : Prop where
  all : ∀ c ∈ t.cl, ∃ j, j < k ∧ j < 5 ∧ c.pre = pfN j ∧ keyOk (nb c.name) = true ∧ clNum c = true
  ord : t.cl.Pairwise fun a b => leS b.pre a.pre = false
  free : inB t.free 0 2592000000 = true
  ins : fstE (keyAt t.ins) t.en = 0
theorem TfG.mono {k k' : Nat} {t : TfV} (h : TfG k t) (hk : k ≤ k') : TfG k' t := ⟨fun c hc => by obtain ⟨j, h1, h2⟩ := h.all c hc; exact ⟨j, by omega, h2⟩, h.ord, h.free, h.ins⟩
theorem TfG.app {k n1 c1 cn cc en ic : Nat} {A1 cA iA : Option Addr} {free : Int} {cl : List ClV} {ins : List ByteArray} (h : TfG k ⟨cA, cn, cc, free, iA, en, ic, cl, ins⟩) (hk : k < 5) {c : ClV} (hp : c.pre = pfN k) (hn : keyOk (nb c.name) = true) (hc : clNum c = true) :
    TfG (k + 1) ⟨A1, n1, c1, free, iA, en, ic, cl ++ [c], ins⟩ := by
  refine ⟨fun x hx => ?_, List.pairwise_append.2 ⟨h.ord, List.pairwise_singleton _ _, fun a ha b hb => ?_⟩, h.free, h.ins⟩
  · rcases List.mem_append.1 hx with hx | hx
    · obtain ⟨j, h1, h2⟩ := h.all x hx
      exact ⟨j, by omega, h2⟩
    · rw [List.mem_singleton.1 hx]; exact ⟨k, by omega, hk, hp, hn, hc⟩
  · obtain ⟨j, h1, _, h2, _⟩ := h.all a ha
    rw [List.mem_singleton.1 hb, hp, h2]
    exact pfN_lt j k h1 hk
theorem TfG.e {k : Nat} {t : TfV} (h : TfG k t) (hc : t.cn ≤ 200) (he : t.en ≤ 2) : tarE t = 0 := by
  have h1 : fstE (clAt t.cl) t.cn = 0 := fstE_nil _ fun i _ => by
    cases hx : t.cl[i]? with
    | none => unfold clAt; rw [hx]; rfl
    | some z =>
      obtain ⟨j, _, h5, h2, h3, h4⟩ := h.all z (List.mem_of_getElem? hx)
      have hpf : pfOk (nb z.pre) = true := by rw [h2]; exact pfN_ok j h5
      by_cases h0 : 0 < i
      · have hl := (List.getElem?_eq_some_iff.1 hx).1
        have hi1 : i - 1 < t.cl.length := by omega
        have ho := List.pairwise_iff_getElem.1 h.ord (i - 1) i hi1 hl (by omega)
        rw [List.getElem?_eq_getElem hl] at hx
        rw [Option.some.inj hx] at ho
        exact clAt_e (b := t.cl[i - 1]) (by rw [List.getElem?_eq_getElem hl]; exact hx) hpf h3 h4 (List.getElem?_eq_getElem hi1) ho
      · exact clAt_z hx hpf h3 h4 h0
  unfold tarE
  rw [if_neg (by omega), if_pos h1, h.free, if_pos rfl, if_neg (by omega)]
  exact h.ins
theorem insG {en : Nat} {ins : List ByteArray} (h : en = 0 ∨ (en = 1 ∧ ins = [⟨#[104, 111, 109, 101]⟩]) ∨ (en = 2 ∧ ins = [⟨#[104, 111, 109, 101]⟩, ⟨#[110, 101, 97, 114]⟩])) : fstE (keyAt ins) en = 0 := by
  rcases h with rfl | ⟨rfl, rfl⟩ | ⟨rfl, rfl⟩
  · rfl
  · decide +kernel
  · decide +kernel
def IsTfR (k lo : Nat) (v : Value) (w : World) : Prop := ∃ t : TfV, v = .agg #[.slice t.cA t.cn t.cc, .int .i64 t.free, .slice t.iA t.en t.ic] ∧ GTf w lo t ∧ t.cn ≤ k ∧ t.en ≤ 2 ∧ tarE t = 0
def spRTR (sb : Nat) : List (Nat × (Value → World → Prop)) :=
  [(4, SlOf sb 9 3 #[.string ⟨#[104, 111, 109, 101]⟩, .string ⟨#[110, 101, 97, 114]⟩, .string ⟨#[102, 97, 114]⟩]), (5, StrQ NmQ),
   (7, SlOf sb 3 4 #[.int .i64 0, .int .i64 0, .int .i64 1000, .int .i64 999]), (8, IntOf [0, 0, 1000, 999]),
   (10, SlOf sb 3 3 #[.int .i64 0, .int .i64 0, .int .i64 60000]), (11, IntOf [0, 0, 60000]),
   (13, SlOf sb 3 3 #[.int .i64 1, .int .i64 1000, .int .i64 60000]), (14, IntOf [1, 1000, 60000]),
   (16, SlOf sb 3 4 #[.int .i64 0, .int .i64 1, .int .i64 10, .int .i64 500]), (17, IntOf [0, 1, 10, 500])]
theorem spRTRR_grown {sb k : Nat} {v : Value} {w w' : World} (h : RSpec (spRTR sb) k v w) (hg : w.grownBy w' (some sb)) : RSpec (spRTR sb) k v w' := by
  refine RSpec.grown (fun p hp v w w' h1 hg => ?_) h hg
  simp only [spRTR, List.mem_cons, List.not_mem_nil, or_false] at hp
  rcases hp with rfl | rfl | rfl | rfl | rfl | rfl | rfl | rfl | rfl | rfl
  all_goals first | exact SlOf.grown h1 hg | exact h1
theorem names5R (k : Nat) (hk : k < 5) {w : World} {g : Nat} (h : Blk w g 9 #[.string ⟨#[]⟩, .string ⟨#[43, 52]⟩, .string ⟨#[43, 52, 57]⟩, .string ⟨#[43, 52, 57, 51, 48]⟩, .string ⟨#[43, 53]⟩]) : ∃ s : ByteArray, s = pfN k ∧ s.size ≤ 5 ∧ w.cell? ⟨g, k, none⟩ = some (.string s) := by
  rcases (by omega : k = 0 ∨ k = 1 ∨ k = 2 ∨ k = 3 ∨ k = 4) with rfl | rfl | rfl | rfl | rfl
  · exact ⟨_, rfl, by decide, h.cell 0⟩
  · exact ⟨_, rfl, by decide, h.cell 1⟩
  · exact ⟨_, rfl, by decide, h.cell 2⟩
  · exact ⟨_, rfl, by decide, h.cell 3⟩
  · exact ⟨_, rfl, by decide, h.cell 4⟩
theorem three_insR (w : World) (wx : World) {lo : Nat} (hlo : lo ≤ w.heap.size) {sb : Nat} (hsb : sb < w.heap.size) {a b c : ByteArray} (ha : a.size ≤ 1000) (hb : b.size ≤ 1000) (hc : c.size ≤ 1000)
    (hg : (((w.alloc (.cells #[.string a] 9)).alloc (.cells #[.string b, .string c] 9)).alloc (.cells #[.slice none 0 0, .slice (some ⟨w.heap.size, 0, none⟩) 1 1, .slice (some ⟨w.heap.size + 1, 0, none⟩) 2 2] 27)).grownBy wx (some sb)) (r : Nat) (hr : r < 3) :
    ∃ (iA : Option Addr) (en ic : Nat) (ins : List ByteArray), wx.cell? ⟨w.heap.size + 2, r, none⟩ = some (.slice iA en ic) ∧ OwnR srow 1 wx lo 9 iA en ic ins ∧ (∀ s ∈ ins, s.size ≤ 1000) ∧ en ≤ 2 ∧ (en = 0 ∨ (en = 1 ∧ ins = [a]) ∨ (en = 2 ∧ ins = [b, c])) := by
  have b3 := ((blkN ((w.alloc (.cells #[.string a] 9)).alloc (.cells #[.string b, .string c] 9)) 27 #[.slice none 0 0, .slice (some ⟨w.heap.size, 0, none⟩) 1 1, .slice (some ⟨w.heap.size + 1, 0, none⟩) 2 2] (g := w.heap.size + 2) (by simp)).grown hg (by simp; omega))
  have o1 := ((((Own.lit w 9 1 [.string a] 1 (by unfold maxLen; omega) rfl).alloc (.cells #[.string b, .string c] 9)).alloc (.cells #[.slice none 0 0, .slice (some ⟨w.heap.size, 0, none⟩) 1 1, .slice (some ⟨w.heap.size + 1, 0, none⟩) 2 2] 27)).kept hg (fun g e => by injection e with e; subst e; simp [blkOf]; omega)).lower hlo
  have o2' := Own.lit (w.alloc (.cells #[.string a] 9)) 9 1 [.string b, .string c] 2 (by unfold maxLen; omega) rfl
  rw [show (w.alloc (.cells #[.string a] 9)).heap.size = w.heap.size + 1 by simp] at o2'
  have o2 := ((o2'.alloc (.cells #[.slice none 0 0, .slice (some ⟨w.heap.size, 0, none⟩) 1 1, .slice (some ⟨w.heap.size + 1, 0, none⟩) 2 2] 27)).kept hg (fun g e => by injection e with e; subst e; simp [blkOf]; omega)).lower (lo' := lo) (by omega)
  rcases (by omega : r = 0 ∨ r = 1 ∨ r = 2) with rfl | rfl | rfl
  · exact ⟨none, 0, 0, [], b3.cell 0, OwnR.nil _ _ _, (fun s hs => by cases hs), by omega, .inl rfl⟩
  · exact ⟨_, 1, 1, [a], b3.cell 1, ⟨o1, rfl⟩, (fun s hs => by rw [List.mem_singleton.1 hs]; exact ha), by omega, .inr (.inl ⟨rfl, rfl⟩)⟩
  · refine ⟨_, 2, 2, [b, c], b3.cell 2, ⟨o2, rfl⟩, (fun s hs => ?_), by omega, .inr (.inr ⟨rfl, rfl⟩)⟩
    simp only [List.mem_cons, List.not_mem_nil, or_false] at hs
    rcases hs with rfl | rfl
    · exact hb
    · exact hc
def RtRelR (w : World) (sb tb : Nat) (m : Int) (free : Int) (t : Value) (wr : World) : Prop := ∃ (k : Nat) (tf : TfV), k ≤ 5 ∧ t = .int .i64 k ∧ tf.free = free ∧ Str wr sb (m + 30 * k) ∧ w.grownBy wr (some sb) ∧
  Blk wr w.heap.size 29 #[.slice none 0 0, .int .i64 0, .slice none 0 0] ∧ Blk wr tb 29 #[.slice tf.cA tf.cn tf.cc, .int .i64 tf.free, .slice tf.iA tf.en tf.ic] ∧
  Blk wr (tb + 1) 9 #[.string ⟨#[]⟩, .string ⟨#[43, 52]⟩, .string ⟨#[43, 52, 57]⟩, .string ⟨#[43, 52, 57, 51, 48]⟩, .string ⟨#[43, 53]⟩] ∧ GTf wr w.heap.size tf ∧ tf.cn ≤ k ∧ tf.en ≤ 2 ∧ TfG k tf
set_option maxHeartbeats 8000000 in
set_option maxRecDepth 100000 in
theorem rightTariffR_any (sb : Nat) (m : Int) (w : World) (hs : Str w sb m) (hm : m ≤ 100000000000) : Calls Tryz.prog 4 #[.pointer (some ⟨sb, 0, none⟩)] w (Drawn sb (m + 200) (IsTfR 6 w.heap.size) w) := by
  have hlt := hs.lt
  have HS := Lib.hid hs; clear hs
  have HG := Lib.hid (gr_refl w (some sb))
  go_enter Tryz.func4, Tryz.ntmps4
  go_wp2_with fail
  have HR := Lib.hid (Blk.new w 29 #[.slice none 0 0, .int .i64 0, .slice none 0 0])
  refine (pick_new sb _ [0, 0, 60000, 90000] _ (by first | exact HS.out | exact HS.out.alloc _ | exact (HS.out.alloc _).alloc _ | exact ((HS.out.alloc _).alloc _).alloc _ | exact HS.out.drewN _ | exact HS.out.setCell (by simp; omega) _ | exact (HS.out.alloc _).setCell (by simp; omega) _ | exact (HS.out.setCell (by simp; omega) _).alloc _ | exact (HS.out.setCell (by simp; omega) _).drewN _ | exact (HS.out.alloc _).drewN _) (by omega) (by simp) rfl rfl (by simp) (by simp)).mono ?_
  rintro e w1 ⟨v1, rfl, ⟨r1, hr1, rfl⟩, hs1, hg1⟩
  have HFR := Lib.hid (show inB r1 0 2592000000 = true from inB_mem [0, 0, 60000, 90000] (by decide) hr1)
  replace HR := Lib.hid (HR.out.grown hg1 (by simp; omega))
  have z1 := hg1.size; (try simp at z1)
  replace HG := Lib.hid (gr_same (a := w) (by repeat (first | exact HG.out | refine gr_alloc ?_ _ | refine gr_drew ?_ | refine gr_drewN ?_ _ | refine gr_setCell ?_ (.inr (by simp; omega)) _)) hg1)
  replace HS := Lib.hid hs1; clear hs1 hg1 hr1
  go_wp2_with fail
  refine (next_any sb _ 3 _ (by first | exact HS.out | exact HS.out.alloc _ | exact (HS.out.alloc _).alloc _ | exact ((HS.out.alloc _).alloc _).alloc _ | exact HS.out.drewN _ | exact HS.out.setCell (by simp; omega) _ | exact (HS.out.alloc _).setCell (by simp; omega) _ | exact (HS.out.setCell (by simp; omega) _).alloc _ | exact (HS.out.setCell (by simp; omega) _).drewN _ | exact (HS.out.alloc _).drewN _) (by omega) (by omega) (by omega)).mono ?_
  rintro e w2 ⟨v2, rfl, ⟨r2, hlo2, hhi2, rfl⟩, hs2, hg2⟩
  obtain ⟨q, rfl⟩ : ∃ q : Nat, r2 = q := ⟨r2.toNat, by omega⟩
  have hq : q < 3 := by omega
  obtain ⟨iA, en, ic, ins, hcell, hins, hinb, hen, hinr⟩ := three_insR w1 w2 (lo := w.heap.size) (by omega) (by omega) (by decide) (by decide) (by decide) hg2 q hq
  have HI := Lib.hid hins; have HIB := Lib.hid hinb; have HIR := Lib.hid (insG hinr); clear hinr
  replace HR := Lib.hid ((((HR.out.alloc _).alloc _).alloc _).grown hg2 (by simp; omega))
  have z2 := hg2.size; (try simp at z2)
  replace HG := Lib.hid (gr_same (a := w) (by repeat (first | exact HG.out | refine gr_alloc ?_ _ | refine gr_drew ?_ | refine gr_drewN ?_ _ | refine gr_setCell ?_ (.inr (by simp; omega)) _)) hg2)
  replace HS := Lib.hid hs2; clear hs2 hg2 hins hinb
  go_wp2_with fail
  obtain ⟨tb, htb⟩ : ∃ tb, w2.heap.size = tb := ⟨_, rfl⟩
  have htb2 : w.heap.size < tb := by omega
  have HTB := Lib.hid htb; clear htb
  go_loopw [5, 19] (fun _ t wr => RtRelR w sb w2.heap.size (m + 2) r1 t wr) (fun _ t _ => 5 - (intOf t).toNat)
  case atStart =>
    refine ⟨0, ⟨none, 0, 0, r1, iA, en, ic, [], ins⟩, by omega, rfl, rfl, ((HS.out.alloc _).alloc _).mono (by omega), gr_alloc (gr_alloc HG.out _) _, (HR.out.alloc _).alloc _, (Blk.new w2 _ _).alloc _, blkN _ _ _ (by simp), ⟨⟨(fun c hc => by cases hc), HIB.out, by dsimp only; omega, by dsimp only; omega⟩, OwnR.nil _ _ _, (HI.out.alloc _).alloc _⟩, by dsimp only; omega, hen, ⟨(fun c hc => by cases hc), List.Pairwise.nil, HFR.out, HIR.out⟩⟩
  case round =>
    clear HS HG HR HI HIB HFR HIR hcell hen
    obtain ⟨k, ⟨cA, cn, cc, free, iA, en, ic, cl, ins⟩, hk, rfl, hfr, hs, hg, hr, hb, hnb, hgt, hcn, hen, htg⟩ := hrel
    dsimp only at hfr hs hb hcn hen
    subst hfr
    have HS := Lib.hid hs; have HG := Lib.hid hg; have HR := Lib.hid hr; have HB := Lib.hid hb; have HN := Lib.hid hnb; have HGT := Lib.hid hgt; have HTG := Lib.hid htg; clear htg
    have zr := hg.size
    have zn := hnb.lt
    clear hs hg hr hb hnb hgt
    by_cases hlt5 : k < 5
    · obtain ⟨ky, hkp, hky, hkc⟩ := names5R k hlt5 HN.out
      have HKP := Lib.hid hkp; clear hkp
      go_wp2_with fail
      refine (flip_any sb _ 3 _ HS.out (by omega) (by omega) (by omega)).mono ?_
      rintro e w4 ⟨v4, rfl, ⟨f4, rfl⟩, hs4, hg4⟩
      replace HR := Lib.hid (HR.out.grown hg4 (by simp; omega))
      replace HB := Lib.hid (HB.out.grown hg4 (by simp; omega))
      replace HN := Lib.hid (HN.out.grown hg4 (by simp; omega))
      replace HGT := Lib.hid (HGT.out.low hg4 (fun g e => by injection e with e; omega))
      replace HG := Lib.hid (gr_same (a := w) HG.out hg4)
      have z4 := hg4.size
      replace HS := Lib.hid hs4; clear hs4 hg4 hkc
      cases f4
      · have kt := HB.out.cell 0
        have htw : w2.heap.size < w4.heap.size := by omega
        go_wp2_with fail
        refine wp_region_E (fun w' => w'.cell? ⟨w2.heap.size, 0, none⟩ = some (.slice cA cn cc)) (by kernel_rfl) ?_
        have hHeld : w4.drew.cell? ⟨w2.heap.size, 0, none⟩ = some (.slice cA cn cc) := kt
        refine E_take (k := 0) (v := ?_) (by rfl) (by kernel_rfl) (by exact fun _ _ _ h => h) (by rfl) ?_ (by assumption) ?_
        rotate_left 1
        · intro w hSw
          (try dsimp only at hSw)
          go_simp
          (try with_reducible rfl)
        (try simp only [Act.put, List.setIfInBounds_toArray, List.set_cons_zero, List.set_cons_succ])
        refine E_take (k := 1) (v := ?_) (by rfl) (by kernel_rfl) (by exact fun _ _ _ h => h) (by rfl) ?_ (by assumption) ?_
        rotate_left 1
        · intro w hSw
          (try dsimp only at hSw)
          go_simp
          (try with_reducible rfl)
        (try simp only [Act.put, List.setIfInBounds_toArray, List.set_cons_zero, List.set_cons_succ])
        refine E_take (k := 2) (v := ?_) (by rfl) (by kernel_rfl) (by exact fun _ _ _ h => h) (by rfl) ?_ (by assumption) ?_
        rotate_left 1
        · intro w hSw
          (try dsimp only at hSw)
          go_simp
          (try with_reducible rfl)
        (try simp only [Act.put, List.setIfInBounds_toArray, List.set_cons_zero, List.set_cons_succ])
        refine E_take (k := 3) (v := ?_) (by rfl) (by kernel_rfl) (by exact fun _ _ _ h => h) (by rfl) ?_ (by assumption) ?_
        rotate_left 1
        · intro w hSw
          (try dsimp only at hSw)
          go_simp
          (try with_reducible rfl)
        (try simp only [Act.put, List.setIfInBounds_toArray, List.set_cons_zero, List.set_cons_succ])
        refine E_take (k := 6) (v := ?_) (by rfl) (by kernel_rfl) (by exact fun _ _ _ h => h) (by rfl) ?_ (by assumption) ?_
        rotate_left 1
        · intro w hSw
          (try dsimp only at hSw)
          go_simp
          (try with_reducible rfl)
        (try simp only [Act.put, List.setIfInBounds_toArray, List.set_cons_zero, List.set_cons_succ])
        refine E_take (k := 9) (v := ?_) (by rfl) (by kernel_rfl) (by exact fun _ _ _ h => h) (by rfl) ?_ (by assumption) ?_
        rotate_left 1
        · intro w hSw
          (try dsimp only at hSw)
          go_simp
          (try with_reducible rfl)
        (try simp only [Act.put, List.setIfInBounds_toArray, List.set_cons_zero, List.set_cons_succ])
        refine E_take (k := 12) (v := ?_) (by rfl) (by kernel_rfl) (by exact fun _ _ _ h => h) (by rfl) ?_ (by assumption) ?_
        rotate_left 1
        · intro w hSw
          (try dsimp only at hSw)
          go_simp
          (try with_reducible rfl)
        (try simp only [Act.put, List.setIfInBounds_toArray, List.set_cons_zero, List.set_cons_succ])
        refine E_take (k := 15) (v := ?_) (by rfl) (by kernel_rfl) (by exact fun _ _ _ h => h) (by rfl) ?_ (by assumption) ?_
        rotate_left 1
        · intro w hSw
          (try dsimp only at hSw)
          go_simp
          (try with_reducible rfl)
        (try simp only [Act.put, List.setIfInBounds_toArray, List.set_cons_zero, List.set_cons_succ])
        refine wpAnyE_calls (phase := [4, 5, 7, 8, 10, 11, 13, 14, 16, 17]) (T := 18) (fuel := 5) (n0 := 10) (fun k => k + 25) (RSpec (spRTR sb)) (sb := sb) (m := m + 2 + 30 * k + 1) (by kernel_rfl) (by decide) ?hsz rfl HS.out.drew ?hdst (fun k v w w' h hg => spRTRR_grown h hg) ?hS ?hlaw ?hend
        case hsz => intro k hk; simp only [List.mem_cons, List.not_mem_nil, or_false] at hk; rcases hk with rfl | rfl | rfl | rfl | rfl | rfl | rfl | rfl | rfl | rfl <;> simp
        case hdst => intro k hk; simp only [List.mem_cons, List.not_mem_nil, or_false] at hk; rcases hk with rfl | rfl | rfl | rfl | rfl | rfl | rfl | rfl | rfl | rfl <;> exact ⟨_, rfl, rfl, rfl⟩
        case hS => intro w' hg; exact (HB.out.grown (gr_same (gr_drew (gr_refl _ _)) hg) (by simp; omega)).cell 0
        case hlaw =>
          intro q o a w' m' K hq ho hsame hdeps hs hm' hg hK
          have h0 := hs.lt
          have hf : ∀ j, (∀ i ∈ [4, 5, 7, 8, 10, 11, 13, 14, 16, 17], i + 25 ≠ j) → a.tmps[j]? = _ := fun j hj => hsame j hj
          simp only [List.mem_cons, List.not_mem_nil, or_false] at hq
          rcases hq with rfl | rfl | rfl | rfl | rfl | rfl | rfl | rfl | rfl | rfl
          · obtain rfl := Option.some.inj ho
            go_simp
            exact hK _ _ ⟨_, rfl, hs.lt, Blk.new _ _ _⟩ ((hs.alloc _).mono (by omega)) (gr_alloc (gr_refl _ _) _)
          · have e28 := hf 28 (by decide)
            obtain rfl := Option.some.inj ho
            obtain ⟨gq, hv, hgs, hbq⟩ : SlOf sb _ _ _ _ _ := hdeps ⟨4, .data⟩ (by simp) rfl (by simp)
            rw [Array.getD_eq_getD_getElem?] at hv
            go_simp
            refine (some_anyQ NmQ sb m' gq 3 _ w' hs (by omega) hbq (by omega) (by
              repeat (first | exact StrsQ.nil _ | refine StrsQ.cons (by first | assumption | decide +kernel) ?_)) rfl (by omega) (by omega)).mono ?_
            rintro e wq ⟨vq, rfl, hvq, hsq, hgq⟩
            exact hK vq wq hvq (hsq.mono (by omega)) hgq
          · obtain rfl := Option.some.inj ho
            go_simp
            exact hK _ _ ⟨_, rfl, hs.lt, Blk.new _ _ _⟩ ((hs.alloc _).mono (by omega)) (gr_alloc (gr_refl _ _) _)
          · have e31 := hf 31 (by decide)
            obtain rfl := Option.some.inj ho
            obtain ⟨gq, hv, hgs, hbq⟩ : SlOf sb _ _ _ _ _ := hdeps ⟨7, .data⟩ (by simp) rfl (by simp)
            rw [Array.getD_eq_getD_getElem?] at hv
            go_simp
            refine (pick_any sb m' gq 4 [0, 0, 1000, 999] w' hs (by omega) (by exact hbq) (by omega) rfl (by omega) (by omega)).mono ?_
            rintro e wq ⟨vq, rfl, hvq, hsq, hgq⟩
            exact hK _ wq hvq (hsq.mono (by omega)) hgq
          · obtain rfl := Option.some.inj ho
            go_simp
            exact hK _ _ ⟨_, rfl, hs.lt, Blk.new _ _ _⟩ ((hs.alloc _).mono (by omega)) (gr_alloc (gr_refl _ _) _)
          · have e34 := hf 34 (by decide)
            obtain rfl := Option.some.inj ho
            obtain ⟨gq, hv, hgs, hbq⟩ : SlOf sb _ _ _ _ _ := hdeps ⟨10, .data⟩ (by simp) rfl (by simp)
            rw [Array.getD_eq_getD_getElem?] at hv
            go_simp
            refine (pick_any sb m' gq 3 [0, 0, 60000] w' hs (by omega) (by exact hbq) (by omega) rfl (by omega) (by omega)).mono ?_
            rintro e wq ⟨vq, rfl, hvq, hsq, hgq⟩
            exact hK _ wq hvq (hsq.mono (by omega)) hgq
          · obtain rfl := Option.some.inj ho
            go_simp
            exact hK _ _ ⟨_, rfl, hs.lt, Blk.new _ _ _⟩ ((hs.alloc _).mono (by omega)) (gr_alloc (gr_refl _ _) _)
          · have e37 := hf 37 (by decide)
            obtain rfl := Option.some.inj ho
            obtain ⟨gq, hv, hgs, hbq⟩ : SlOf sb _ _ _ _ _ := hdeps ⟨13, .data⟩ (by simp) rfl (by simp)
            rw [Array.getD_eq_getD_getElem?] at hv
            go_simp
            refine (pick_any sb m' gq 3 [1, 1000, 60000] w' hs (by omega) (by exact hbq) (by omega) rfl (by omega) (by omega)).mono ?_
            rintro e wq ⟨vq, rfl, hvq, hsq, hgq⟩
            exact hK _ wq hvq (hsq.mono (by omega)) hgq
          · obtain rfl := Option.some.inj ho
            go_simp
            exact hK _ _ ⟨_, rfl, hs.lt, Blk.new _ _ _⟩ ((hs.alloc _).mono (by omega)) (gr_alloc (gr_refl _ _) _)
          · have e40 := hf 40 (by decide)
            obtain rfl := Option.some.inj ho
            obtain ⟨gq, hv, hgs, hbq⟩ : SlOf sb _ _ _ _ _ := hdeps ⟨16, .data⟩ (by simp) rfl (by simp)
            rw [Array.getD_eq_getD_getElem?] at hv
            go_simp
            refine (pick_any sb m' gq 4 [0, 1, 10, 500] w' hs (by omega) (by exact hbq) (by omega) rfl (by omega) (by omega)).mono ?_
            rintro e wq ⟨vq, rfl, hvq, hsq, hgq⟩
            exact hK _ wq hvq (hsq.mono (by omega)) hgq
        case hend =>
          intro vs w5 hR hs5 hg5
          obtain ⟨y, hy, hyk, hyb⟩ : StrQ NmQ (vs 5) w5 := hR 5 (by simp)
          obtain ⟨z1, hm1, hz1⟩ : IntOf [0, 0, 1000, 999] (vs 8) w5 := hR 8 (by simp)
          obtain ⟨z2, hm2, hz2⟩ : IntOf [0, 0, 60000] (vs 11) w5 := hR 11 (by simp)
          obtain ⟨z3, hm3, hz3⟩ : IntOf [1, 1000, 60000] (vs 14) w5 := hR 14 (by simp)
          obtain ⟨z4, hm4, hz4⟩ : IntOf [0, 1, 10, 500] (vs 17) w5 := hR 17 (by simp)
          have HCN := Lib.hid (show keyOk (nb y) = true ∧ clNum ⟨ky, y, z1, z2, z3, z4⟩ = true from ⟨hyk, clNum_of (inB_mem _ (by decide) hm1) (inB_mem _ (by decide) hm4) (inB_mem _ (by decide) hm2) (inB_mem _ (by decide) hm3)⟩)
          clear hR hHeld hm1 hm2 hm3 hm4 hyk
          have hgx : w4.grownBy w5 (some sb) := gr_same (gr_drew (gr_refl _ _)) hg5
          have HB5 := Lib.hid (HB.out.grown hgx (by simp; omega))
          have HR5 := Lib.hid (HR.out.grown hgx (by simp; omega))
          have HN5 := Lib.hid (HN.out.grown hgx (by simp; omega))
          have HGT5 := Lib.hid (HGT.out.low hgx (fun g e => by injection e with e; omega))
          have HG5 := Lib.hid (gr_same HG.out hgx)
          have HS5 := Lib.hid hs5
          have z5 := hgx.size
          have htw5 : w2.heap.size < w5.heap.size := by omega
          have hHeld := HB5.out.cell 0
          clear hs5 hg5 hgx kt
          simp only [putAll, List.foldl_cons, List.foldl_nil, Act.put, Nat.reduceAdd, List.setIfInBounds_toArray, List.set_cons_zero, List.set_cons_succ, hy, hz1, hz2, hz3, hz4]
          clear hy hz1 hz2 hz3 hz4
          refine E_take (k := 18) (v := ?_) (by rfl) (by kernel_rfl) (by exact fun _ _ _ h => h) (by rfl) ?_ (by assumption) ?_
          rotate_left 1
          · intro w hSw
            (try dsimp only at hSw)
            go_simp
            (try with_reducible rfl)
          (try simp only [Act.put, List.setIfInBounds_toArray, List.set_cons_zero, List.set_cons_succ])
          refine E_run (k := 19) (by rfl) (by kernel_rfl) (by rfl) (fun K hK => ?_)
          go_simp
          refine hK _ _ (.inr (by go_keep)) ?_
          clear hK K hHeld
          have hHeld := (HB5.out.alloc (.cells #[.string ky, .string y, .int .i64 z1, .int .i64 z2, .int .i64 z3, .int .i64 z4] 68)).cell 0
          refine E_run (k := 20) (by rfl) (by kernel_rfl) (by rfl) (fun K hK => ?_)
          refine wp_app _ _ _ Tryz.clsT (by rfl) w.heap.size cA cn cc (cl.flatMap ClV.row) (by rfl) (by exact HGT5.out.cls.1.alloc _) _ _ 1 1 [.string ky, .string y, .int .i64 z1, .int .i64 z2, .int .i64 z3, .int .i64 z4] (by rfl) (by exact Reads.one _ _ _ _ rfl) (by simp [Value.oneCell']) (by unfold maxLen; omega) (by omega) (by simp; omega) ?_
          intro A1 c1 w8 h8
          have hb8 := (HB5.out.alloc (.cells #[.string ky, .string y, .int .i64 z1, .int .i64 z2, .int .i64 z3, .int .i64 z4] 68)).grown h8.2.1 (Ne.symm (HGT5.out.cls.1.blk_ne HB5.out (by decide)))
          have c8 := hb8.cell 0
          have f8 := hb8.frozen 0
          have H8 := Lib.hid h8
          have HB8 := Lib.hid hb8
          clear h8 hb8
          refine hK _ _ (.inr c8) ?_
          clear hK K hHeld
          have hHeld := c8
          refine E_take (k := 21) (v := ?_) (by rfl) (by kernel_rfl) (by exact fun _ _ _ h => h) (by rfl) ?_ (by assumption) ?_
          rotate_left 1
          · intro w hSw
            (try dsimp only at hSw)
            go_simp
            (try with_reducible rfl)
          (try simp only [Act.put, List.setIfInBounds_toArray, List.set_cons_zero, List.set_cons_succ])
          refine E_run (k := 22) (by rfl) (by kernel_rfl) (by rfl) (fun K hK => ?_)
          go_simp
          refine hK _ _ (.inl (by rfl)) ?_
          clear hK K hHeld
          refine E_done (by kernel_rfl) ?_
          go_wp2_with fail
          go_roundw
          case rel =>
            have hA := HGT5.out.low (gr_alloc (gr_refl _ none) (.cells #[.string ky, .string y, .int .i64 z1, .int .i64 z2, .int .i64 z3, .int .i64 z4] 68)) (fun g e => by cases e)
            have hne : ∀ g, blkOf cA = some g → sb < g := fun g e => by have := (hA.cls.1.lt e).1; omega
            refine ⟨k + 1, ⟨A1, cn + 1, c1, free, iA, en, ic, cl ++ [⟨ky, y, z1, z2, z3, z4⟩], ins⟩, by omega, by go_num, rfl, (((HS5.out.alloc _).grown H8.out.2.1 hne).setCell (by simp; omega) _).mono (by omega), gr_setCell (H8.out.gr (gr_alloc HG5.out _) hA.cls.1 (Nat.le_refl _)) (.inr (by simp; omega)) _, ?_, HB8.out.set_ 0 _, ?_, ?_, by dsimp only; omega, hen, HTG.out.app hlt5 HKP.out HCN.out.1 HCN.out.2⟩
            · exact ((HR5.out.alloc _).grown H8.out.2.1 (Ne.symm (hA.cls.1.blk_ne (HR5.out.alloc _) (by decide)))).far (by simp; omega) _
            · exact ((HN5.out.alloc _).grown H8.out.2.1 (Ne.symm (hA.cls.1.blk_ne (HN5.out.alloc _) (by decide)))).far (by simp) _
            · exact (hA.app (c := ⟨ky, y, z1, z2, z3, z4⟩) ⟨by dsimp only; omega, by dsimp only; omega⟩ rfl (by dsimp only; omega) H8.out).far HB8.out 0 _
          case measure => simp [intOf]; omega
      · go_wp2_with fail
        go_roundw
        case rel => exact ⟨k + 1, ⟨cA, cn, cc, free, iA, en, ic, cl, ins⟩, by omega, by go_num, rfl, HS.out.mono (by omega), HG.out, HR.out, HB.out, HN.out, HGT.out, by dsimp only; omega, hen, HTG.out.mono (by omega)⟩
        case measure => simp [intOf]; omega
    · obtain rfl : k = 5 := by omega
      go_wp2_with (first
        | (refine wpl_load_all Tryz.tfT rfl _ rfl _ rfl _ _ HB.out rfl ?_)
        | (refine wpl_store_all Tryz.tfT rfl _ _ rfl _ rfl _ _ _ rfl HR.out rfl rfl (by simp [Value.oneCell']) ?_
           intro wz hst
           have HST := Lib.hid hst; clear hst)
        | fail)
      have hst := HST.out
      refine ret_cell Tryz.tfT rfl _ _ _ rfl hst.1 rfl rfl ?_
      have hgs : wr.grownBy wz (some w.heap.size) := hst.2.1
      refine ⟨_, rfl, ⟨⟨cA, cn, cc, free, iA, en, ic, cl, ins⟩, rfl, ⟨HGT.out.bd, HGT.out.cls.kept hgs (fun g e => by injection e with e; subst e; exact HGT.out.cls.1.blk_ne HR.out (by decide)), HGT.out.ins.kept hgs (fun g e => by injection e with e; subst e; exact HGT.out.ins.1.blk_ne HR.out (by decide))⟩, by dsimp only; omega, hen, HTG.out.e (by dsimp only; omega) hen⟩, (HS.out.grown hgs (fun g e => by injection e with e; omega)).mono (by omega), gr_trans HG.out hgs (fun g e => .inr (by injection e with e; omega))⟩
end Go.Proofs.YtfakdalpaopjaaaGreatDoor

/- strings.Trim at the signs of keys, the document's 'only'; what a key is: number.IsKey and the document's Key; moments. Conditions: none. -/
import Derived.Test.YteppdabhloieaaaGreatDoorBun1
import Derived.Test.YteppdabhloieaaaGreatDoorShelfTrim
import Derived.Laws.Cover1
import Derived.Test.YteppdabhloieaaaGreatDoorBun5
import Derived.Test.YteppdabhloieaaaGreatDoorBun6
import Derived.Test.YteppdabhloieaaaGreatDoorBun4
import Derived.Maps.Own
import Derived.Maps.OwnOps
import Derived.WalkKit
import Derived.Deep.QuietTactic
import Derived.BigQuiet
import Derived.Test.YteppdabhloieaaaGreatDoorBun3
namespace Go.Proofs.YteppdabhloieaaaGreatDoor
section
open Go.RowKit
def ixS (l : List Nat) (c : Nat) : Int := if c ∈ l then ((l.takeWhile (· != c)).length : Int) else -1
theorem ixS_eq (l : List UInt8) (c : Nat) (hc : c < 256) : Lib.indexByte l c.toUInt8 = ixS (l.map UInt8.toNat) c := by
 induction l with
 | nil => simp [Lib.indexByte, ixS]
 | cons b l ih =>
   have hb : (b == c.toUInt8) = (b.toNat == c) := by
     rw [Bool.eq_iff_iff, beq_iff_eq, beq_iff_eq]
     constructor
     · rintro rfl; simp [Nat.mod_eq_of_lt hc]
     · rintro rfl; simp
   unfold Lib.indexByte
   rw [ih, hb]
   unfold ixS
   by_cases h : b.toNat = c
   · simp [h]
   · have h' : (b.toNat == c) = false := by simpa using h
     rw [h']
     have hm : (c ∈ (b :: l).map UInt8.toNat) ↔ c ∈ l.map UInt8.toNat := by simp [Ne.symm h]
     by_cases h2 : c ∈ l.map UInt8.toNat
     · rw [if_pos h2, if_pos (hm.2 h2)]
       have h3 : (b.toNat != c) = true := by simpa using h
       simp only [List.map_cons, List.takeWhile_cons, h3, if_true, List.length_cons]
       have : ((((l.map UInt8.toNat).takeWhile (· != c)).length : Int) == -1) = false := by
         rw [beq_eq_false_iff_ne]; omega
       rw [this]
       simp
     · rw [if_neg h2, if_neg (fun h3 => h2 (hm.1 h3))]
       simp
theorem ixS_mem {l : List Nat} {c : Nat} : (0 ≤ ixS l c ↔ c ∈ l) ∧ (ixS l c < 0 ↔ ¬ c ∈ l) := by
 unfold ixS
 by_cases h : c ∈ l
 · rw [if_pos h]; exact ⟨⟨fun _ => h, fun _ => by omega⟩, ⟨fun h2 => by omega, fun h2 => absurd h h2⟩⟩
 · rw [if_neg h]; exact ⟨⟨fun h2 => by omega, fun h2 => absurd h2 h⟩, ⟨fun _ => h, fun _ => by omega⟩⟩
theorem ixS_any (s : ByteArray) (c : Nat) (w : World) (hc : c < 256) : Calls Tryz.prog 69 #[.string s, .int .u8 c] w (Same (.int .i64 (ixS (nb s) c)) w) := by
 refine (indexByte_any s c w).mono ?_
 rintro e w' ⟨rfl, rfl⟩
 refine ⟨?_, rfl⟩
 rw [Int.toNat_natCast, ixS_eq _ _ hc]
 rfl
set_option maxHeartbeats 2000000 in
theorem onlyS_any (s u : ByteArray) (w : World) (hs : s.size ≤ 1000000000) : Calls Tryz.prog 63 #[.string s, .string u] w (Same (.bool ((nb s).all (fun b => decide (b ∈ nb u)))) w) := by
 go_enter Tryz.func63, Tryz.ntmps63
 go_wp2_with fail
 go_loop [5, 8] (fun _ t => ∃ i : Nat, i ≤ s.size ∧ t = .int .i64 i ∧ ∀ j, j < i → (nb s).getD j 0 ∈ nb u) (fun _ t => s.size - (intOf t).toNat)
 case atStart => exact ⟨0, Nat.zero_le _, rfl, fun j hj => by omega⟩
 case round =>
   obtain ⟨i, hi, rfl, hin⟩ := hrel
   have HIN := Lib.hid hin; clear hin
   by_cases hil : i < s.size
   · obtain ⟨q, hq⟩ : ∃ q, s[i].toNat = q := ⟨_, rfl⟩
     have q256 : q < 256 := by rw [← hq]; exact UInt8.toNat_lt _
     have HQ := Lib.hid (show (nb s).getD i 0 = q by rw [← nb_get hil, hq])
     obtain ⟨z, hz⟩ : ∃ z, ixS (nb u) q = z := ⟨_, rfl⟩
     have HZ := Lib.hid hz
     have hi0 := ixS_mem (l := nb u) (c := q)
     rw [hz] at hi0
     clear hz
     by_cases hz0 : z < 0
     · have HF := Lib.hid (show (nb s).all (fun b => decide (b ∈ nb u)) = false by
         rw [List.all_eq_false]
         have hl : i < (nb s).length := by rw [nb_len]; exact hil
         refine ⟨q, ?_, by simpa using hi0.2.1 hz0⟩
         rw [← HQ.out, List.getD_eq_getElem?_getD, List.getElem?_eq_getElem hl]
         exact List.getElem_mem _)
       clear hi0
       go_wp2_with (first
         | (go_at_call 69; refine (ixS_any u q _ q256).mono ?_; rintro e w' ⟨rfl, rfl⟩; rw [HZ.out])
         | fail)
       go_ret
       exact ⟨by rw [HF.out]; rfl, rfl⟩
     · have HN := Lib.hid (hi0.1.1 (by omega))
       clear hi0
       go_wp2_with (first
         | (go_at_call 69; refine (ixS_any u q _ q256).mono ?_; rintro e w' ⟨rfl, rfl⟩; rw [HZ.out])
         | fail)
       go_round
       case rel => exact ⟨i + 1, by omega, by go_num, fun j hj => by
         rcases Nat.lt_succ_iff_lt_or_eq.1 hj with h1 | h1
         · exact HIN.out j h1
         · subst h1; rw [HQ.out]; exact HN.out⟩
       case measure => simp [intOf]; omega
   · obtain rfl : i = s.size := by omega
     have HT := Lib.hid (show (nb s).all (fun b => decide (b ∈ nb u)) = true by
       rw [List.all_eq_true]
       intro b hb
       obtain ⟨k, hk, rfl⟩ := List.mem_iff_getElem.1 hb
       have := HIN.out k (by rw [nb_len] at hk; exact hk)
       rw [List.getD_eq_getElem?_getD, List.getElem?_eq_getElem hk] at this
       exact decide_eq_true this)
     have d0 : decide ((s.size : Int) < (s.size : Int)) = false := decide_eq_false (by omega)
     go_wp2_with fail
     go_ret
     exact ⟨by rw [HT.out]; rfl, rfl⟩
theorem tr_head {p : UInt8 → Bool} {l : List UInt8} {a : UInt8} {r : List UInt8} (h : l.dropWhile p = a :: r) : p a = false := by
 induction l with
 | nil => cases h
 | cons b l ih =>
   rw [List.dropWhile_cons] at h
   split at h
   · exact ih h
   · rename_i hp
     injection h with h1 h2
     subst h1
     simpa using hp
theorem tr_all {p : UInt8 → Bool} {l : List UInt8} : l.dropWhile p = [] ↔ ∀ a ∈ l, p a = true := by
 induction l with
 | nil => simp
 | cons b l ih =>
   rw [List.dropWhile_cons]
   by_cases hp : p b = true
   · rw [if_pos hp, ih]; simp [hp]
   · rw [if_neg hp]; simp [hp]
theorem tr_nil (l cs : List UInt8) : Lib.trimS l cs = [] ↔ ∀ b ∈ l, cs.contains b = true := by
 unfold Lib.trimS Lib.trimLeftS Lib.trimRightS
 rw [tr_all]
 constructor
 · intro h
   cases hd : l.reverse.dropWhile (cs.contains ·) with
   | nil =>
     have := tr_all.1 hd
     intro b hb
     exact this b (by simpa using hb)
   | cons a r =>
     exfalso
     have h1 := tr_head hd
     have h2 := h a (by rw [hd]; simp)
     rw [h1] at h2
     cases h2
 · intro h
   have : l.reverse.dropWhile (cs.contains ·) = [] := tr_all.2 (fun a ha => h a (by simpa using ha))
   rw [this]
   simp
theorem tr_only (s : ByteArray) (cs : List UInt8) : (Lib.trimS s.data.toList cs = []) ↔ (nb s).all (fun b => decide (b ∈ cs.map UInt8.toNat)) = true := by
 rw [tr_nil, List.all_eq_true]
 unfold nb
 have hin : ∀ u : UInt8, cs.contains u = true ↔ u.toNat ∈ cs.map UInt8.toNat := fun u => by
   rw [List.contains_iff_mem]
   constructor
   · intro h; exact List.mem_map.2 ⟨u, h, rfl⟩
   · intro h
     obtain ⟨v, hv, he⟩ := List.mem_map.1 h
     rw [← UInt8.toNat_inj.1 he]; exact hv
 constructor
 · intro h b hb
   obtain ⟨u, hu, rfl⟩ := List.mem_map.1 hb
   exact decide_eq_true ((hin u).1 (h u hu))
 · intro h u hu
   exact (hin u).2 (of_decide_eq_true (h _ (List.mem_map.2 ⟨u, hu, rfl⟩)))
def keySigns : List Nat := [97, 98, 99, 100, 101, 102, 103, 104, 105, 106, 107, 108, 109, 110, 111, 112, 113, 114, 115, 116, 117, 118, 119, 120, 121, 122, 48, 49, 50, 51, 52, 53, 54, 55, 56, 57, 45, 95]
def smallSigns : List Nat := [97, 98, 99, 100, 101, 102, 103, 104, 105, 106, 107, 108, 109, 110, 111, 112, 113, 114, 115, 116, 117, 118, 119, 120, 121, 122]
def keyOk (l : List Nat) : Bool := decide (1 ≤ l.length) && decide (l.length ≤ 40) && decide (97 ≤ l.getD 0 0) && decide (l.getD 0 0 ≤ 122) && l.all (fun b => decide (b ∈ keySigns))
set_option maxRecDepth 100000 in
theorem trimKey_any (s : ByteArray) (w : World) (hs : s.size ≤ 1000000) : Calls Tryz.prog 134 #[.string s, .string ⟨#[97, 98, 99, 100, 101, 102, 103, 104, 105, 106, 107, 108, 109, 110, 111, 112, 113, 114, 115, 116, 117, 118, 119, 120, 121, 122, 48, 49, 50, 51, 52, 53, 54, 55, 56, 57, 45, 95]⟩] w
   (RetV (.string ⟨(Lib.trimS s.data.toList [97, 98, 99, 100, 101, 102, 103, 104, 105, 106, 107, 108, 109, 110, 111, 112, 113, 114, 115, 116, 117, 118, 119, 120, 121, 122, 48, 49, 50, 51, 52, 53, 54, 55, 56, 57, 45, 95]).toArray⟩) w) := by
 refine (Any.strings_Trim_laid Tryz.lays160 (by kernel_rfl) s ⟨#[97, 98, 99, 100, 101, 102, 103, 104, 105, 106, 107, 108, 109, 110, 111, 112, 113, 114, 115, 116, 117, 118, 119, 120, 121, 122, 48, 49, 50, 51, 52, 53, 54, 55, 56, 57, 45, 95]⟩ w (by omega) (by decide) (ascii_of_all (by decide))).mono ?_
 rintro e w' ⟨rfl, hb⟩
 exact ⟨rfl, gr_below hb none⟩
set_option maxHeartbeats 2000000 in
set_option maxRecDepth 100000 in
theorem isKey_any (s : ByteArray) (w : World) (hs : s.size ≤ 1000000) : Calls Tryz.prog 75 #[.string s] w (RetV (.bool (keyOk (nb s))) w) := by
 have hlen := nb_len s
 by_cases h1 : 1 ≤ s.size
 · have q1 : decide ((1 : Int) ≤ (s.size : Int)) = true := decide_eq_true (by omega)
   by_cases h2 : s.size ≤ 40
   · have q2 : decide ((s.size : Int) ≤ 40) = true := decide_eq_true (by omega)
     obtain ⟨b, hb⟩ : ∃ b, s[0].toNat = b := ⟨_, rfl⟩
     have hb0 : (nb s).getD 0 0 = b := by rw [← nb_get (by omega), hb]
     have HD := Lib.hid (show keyOk (nb s) = (decide (97 ≤ b) && decide (b ≤ 122) && (nb s).all (fun b => decide (b ∈ keySigns))) by
       unfold keyOk; rw [hlen, decide_eq_true h1, decide_eq_true h2, hb0]; simp only [Bool.true_and])
     clear hlen hb0
     by_cases h3 : 97 ≤ b
     · have q3 : decide ((97 : Int) ≤ (b : Int)) = true := decide_eq_true (by omega)
       by_cases h4 : b ≤ 122
       · have q4 : decide ((b : Int) ≤ 122) = true := decide_eq_true (by omega)
         obtain ⟨u, hu⟩ : ∃ u : ByteArray, (⟨(Lib.trimS s.data.toList [97, 98, 99, 100, 101, 102, 103, 104, 105, 106, 107, 108, 109, 110, 111, 112, 113, 114, 115, 116, 117, 118, 119, 120, 121, 122, 48, 49, 50, 51, 52, 53, 54, 55, 56, 57, 45, 95]).toArray⟩ : ByteArray) = u := ⟨_, rfl⟩
         have HU := Lib.hid hu
         obtain ⟨B, hB⟩ : ∃ B, (nb s).all (fun b => decide (b ∈ keySigns)) = B := ⟨_, rfl⟩
         have HB := Lib.hid (show keyOk (nb s) = B by rw [HD.out, decide_eq_true h3, decide_eq_true h4, hB]; rfl)
         have hul : u.toList = Lib.trimS s.data.toList [97, 98, 99, 100, 101, 102, 103, 104, 105, 106, 107, 108, 109, 110, 111, 112, 113, 114, 115, 116, 117, 118, 119, 120, 121, 122, 48, 49, 50, 51, 52, 53, 54, 55, 56, 57, 45, 95] := by rw [← hu]; exact ByteArray.toList_mk _
         cases B
         · have q3 : ¬ u.toList = [] := fun h => by
             rw [hul, tr_only] at h
             have : (nb s).all (fun b => decide (b ∈ keySigns)) = true := h
             rw [hB] at this; cases this
           have q4 : (u.toList == []) = false := by rw [beq_eq_false_iff_ne]; exact q3
           have q5 : u.toList.isEmpty = false := by rw [List.isEmpty_eq_false_iff]; exact q3
           clear hu hB hul q3
           go_enter Tryz.func75, Tryz.ntmps75
           go_wp2_with (first
             | (go_at_call 134; refine (trimKey_any s _ hs).mono ?_; rintro e w' ⟨rfl, hg⟩; rw [HU.out]; have HG := Lib.hid hg; clear hg)
             | fail)
           go_ret
           exact ⟨by rw [HB.out]; rfl, HG.out⟩
         · have q3 : u.toList = [] := by rw [hul, tr_only]; exact hB
           clear hu hB hul
           go_enter Tryz.func75, Tryz.ntmps75
           go_wp2_with (first
             | (go_at_call 134; refine (trimKey_any s _ hs).mono ?_; rintro e w' ⟨rfl, hg⟩; rw [HU.out]; have HG := Lib.hid hg; clear hg)
             | fail)
           go_ret
           exact ⟨by rw [HB.out]; rfl, HG.out⟩
       · have q4 : decide ((b : Int) ≤ 122) = false := decide_eq_false (by omega)
         have HB := Lib.hid (show keyOk (nb s) = false by rw [HD.out, decide_eq_false h4]; simp)
         go_enter Tryz.func75, Tryz.ntmps75
         go_wp2_with fail
         go_ret
         exact ⟨by rw [HB.out]; rfl, gr_refl _ _⟩
     · have q3 : decide ((97 : Int) ≤ (b : Int)) = false := decide_eq_false (by omega)
       have HB := Lib.hid (show keyOk (nb s) = false by rw [HD.out, decide_eq_false h3]; simp)
       go_enter Tryz.func75, Tryz.ntmps75
       go_wp2_with fail
       go_ret
       exact ⟨by rw [HB.out]; rfl, gr_refl _ _⟩
   · have q2 : decide ((s.size : Int) ≤ 40) = false := decide_eq_false (by omega)
     have HB := Lib.hid (show keyOk (nb s) = false by unfold keyOk; rw [hlen, decide_eq_false h2]; simp)
     clear hlen
     go_enter Tryz.func75, Tryz.ntmps75
     go_wp2_with fail
     go_ret
     exact ⟨by rw [HB.out]; rfl, gr_refl _ _⟩
 · have q1 : decide ((1 : Int) ≤ (s.size : Int)) = false := decide_eq_false (by omega)
   have HB := Lib.hid (show keyOk (nb s) = false by unfold keyOk; rw [hlen, decide_eq_false h1]; simp)
   clear hlen
   go_enter Tryz.func75, Tryz.ntmps75
   go_wp2_with fail
   go_ret
   exact ⟨by rw [HB.out]; rfl, gr_refl _ _⟩
theorem small_iff : ∀ c : Fin 256, decide (c.val ∈ smallSigns) = (decide (97 ≤ c.val) && decide (c.val ≤ 122)) := by decide +kernel
theorem nb_small : nb ⟨#[97, 98, 99, 100, 101, 102, 103, 104, 105, 106, 107, 108, 109, 110, 111, 112, 113, 114, 115, 116, 117, 118, 119, 120, 121, 122]⟩ = smallSigns := by decide +kernel
theorem nb_keyS : nb ⟨#[97, 98, 99, 100, 101, 102, 103, 104, 105, 106, 107, 108, 109, 110, 111, 112, 113, 114, 115, 116, 117, 118, 119, 120, 121, 122, 48, 49, 50, 51, 52, 53, 54, 55, 56, 57, 45, 95]⟩ = keySigns := by decide +kernel
set_option maxHeartbeats 2000000 in
set_option maxRecDepth 100000 in
theorem keyRef_any (s : ByteArray) (w : World) (hs : s.size ≤ 1000000) : Calls Tryz.prog 29 #[.string s] w (Same (.bool (keyOk (nb s))) w) := by
 have hlen := nb_len s
 obtain ⟨B1, h1⟩ : ∃ B1, inB (s.size : Int) 1 40 = B1 := ⟨_, rfl⟩
 have H1 := Lib.hid h1
 have hB1 : B1 = (decide (1 ≤ s.size) && decide (s.size ≤ 40)) := by
   rw [← h1]; unfold inB; rw [Bool.eq_iff_iff]; simp only [Bool.and_eq_true, decide_eq_true_eq]; omega
 clear h1
 cases B1
 · have HB := Lib.hid (show keyOk (nb s) = false by unfold keyOk; rw [hlen, ← hB1]; rfl)
   clear hlen hB1
   go_enter Tryz.func29, Tryz.ntmps29
   go_wp2_with (first
     | (go_at_call 62; refine (in_any _ _ _ _).mono ?_; rintro e w' ⟨rfl, rfl⟩; rw [H1.out])
     | fail)
   go_ret
   exact ⟨by rw [HB.out]; rfl, rfl⟩
 · have h12 : 1 ≤ s.size ∧ s.size ≤ 40 := by simpa using hB1.symm
   obtain ⟨u, hu⟩ : ∃ u, s.extract 0 1 = u := ⟨_, rfl⟩
   have hnu : nb u = [(nb s).getD 0 0] := by
     rw [← hu, nb_extract]
     cases hn : nb s with
     | nil => rw [hn] at hlen; simp at hlen; omega
     | cons x l => rfl
   have hus : u.size ≤ 1 := by rw [← nb_len, hnu]; simp
   have h256 : (nb s).getD 0 0 < 256 := nb_lt (s := u) (by rw [hnu]; simp)
   obtain ⟨B2, h2⟩ : ∃ B2, (nb u).all (fun b => decide (b ∈ smallSigns)) = B2 := ⟨_, rfl⟩
   obtain ⟨B3, h3⟩ : ∃ B3, (nb s).all (fun b => decide (b ∈ keySigns)) = B3 := ⟨_, rfl⟩
   have HB := Lib.hid (show keyOk (nb s) = (B2 && B3) by
     unfold keyOk
     rw [← h2, ← h3, hnu, hlen, decide_eq_true h12.1, decide_eq_true h12.2]
     have := small_iff ⟨_, h256⟩
     simp only [List.all_cons, List.all_nil, Bool.and_true, Bool.true_and]
     rw [this])
   have H2 := Lib.hid h2; have H3 := Lib.hid h3
   clear hB1 hnu h2 h3 hlen h256
   have g1 : (1 : Int) ≤ (s.size : Int) := by omega
   have g2 : (1 : Nat) ≤ s.size := by omega
   clear h12
   obtain ⟨sm, hsm⟩ : ∃ sm : ByteArray, (⟨#[97, 98, 99, 100, 101, 102, 103, 104, 105, 106, 107, 108, 109, 110, 111, 112, 113, 114, 115, 116, 117, 118, 119, 120, 121, 122]⟩ : ByteArray) = sm := ⟨_, rfl⟩
   obtain ⟨ks, hks⟩ : ∃ ks : ByteArray, (⟨#[97, 98, 99, 100, 101, 102, 103, 104, 105, 106, 107, 108, 109, 110, 111, 112, 113, 114, 115, 116, 117, 118, 119, 120, 121, 122, 48, 49, 50, 51, 52, 53, 54, 55, 56, 57, 45, 95]⟩ : ByteArray) = ks := ⟨_, rfl⟩
   have HSM := Lib.hid (show (nb u).all (fun b => decide (b ∈ nb sm)) = B2 by rw [← hsm, nb_small]; exact H2.out)
   have HKS := Lib.hid (show (nb s).all (fun b => decide (b ∈ nb ks)) = B3 by rw [← hks, nb_keyS]; exact H3.out)
   cases B2
   all_goals
     go_enter Tryz.func29, Tryz.ntmps29
     go_wp2_with (first
       | (go_at_call 62; refine (in_any _ _ _ _).mono ?_; rintro e w' ⟨rfl, rfl⟩; rw [H1.out])
       | (go_at_call 63; ((with_reducible refine (onlyS_any u sm _ (by omega)).mono ?_); rintro e w' ⟨rfl, rfl⟩; rw [HSM.out]))
       | (go_at_call 63; ((with_reducible refine (onlyS_any s ks _ (by omega)).mono ?_); rintro e w' ⟨rfl, rfl⟩; rw [HKS.out]))
       | fail)
     go_ret
     exact ⟨by rw [HB.out]; rfl, rfl⟩
end
end Go.Proofs.YteppdabhloieaaaGreatDoor
namespace Go.Proofs.YteppdabhloieaaaGreatDoor
section
open Go.RowKit
def leS (a b : ByteArray) : Bool := Op.bytesLess a.toList b.toList || a.toList == b.toList
def fstE (f : Nat → Int) : Nat → Int
 | 0 => 0
 | n + 1 => if fstE f n = 0 then f n else fstE f n
theorem fstE_zero {f : Nat → Int} {i : Nat} (h : fstE f i = 0) (h1 : f i = 0) : fstE f (i + 1) = 0 := by simp [fstE, h, h1]
theorem fstE_stop {f : Nat → Int} {i n : Nat} (h : fstE f i = 0) (h1 : f i ≠ 0) (hn : i < n) : fstE f n = f i := by
 induction n with
 | zero => omega
 | succ n ih =>
   by_cases e : i = n
   · subst e; simp [fstE, h]
   · have := ih (by omega)
     simp [fstE, this, h1]
theorem fst_ret {f : Nat → Int} {i n : Nat} {X v : Int} (h : fstE f i = 0) (e : f i = v) (hv : v ≠ 0) (hn : i < n) : (if fstE f n = 0 then X else fstE f n) = v := by
 rw [fstE_stop h (by rw [e]; exact hv) hn, e, if_neg hv]
def momB (n : Int) : Bool := inB n 0 345686399999
set_option maxHeartbeats 1000000 in
theorem isMomB_any (n : Int) (w : World) : Calls Tryz.prog 76 #[.int .i64 n] w (Same (.bool (momB n)) w) := by
 have H := Lib.hid (show momB n = (decide (0 ≤ n) && decide (n ≤ 345686399999)) from rfl)
 by_cases h1 : 0 ≤ n <;> by_cases h2 : n < 345686400000
 all_goals
   go_enter Tryz.func76, Tryz.ntmps76
   go_wp2
   go_ret
   exact ⟨by rw [H.out]; simp [h1]; omega, rfl⟩
set_option maxHeartbeats 1000000 in
theorem momentB_any (n : Int) (w : World) : Calls Tryz.prog 64 #[.int .i64 n] w (Same (.bool (momB n)) w) := by
 go_enter Tryz.func64, Tryz.ntmps64
 go_wp2_with (first
   | (go_at_call 62; refine (in_any _ _ _ _).mono ?_; rintro e w' ⟨rfl, rfl⟩)
   | fail)
 go_ret
 exact ⟨rfl, rfl⟩
theorem keyRefR_any (s : ByteArray) (w : World) (hs : s.size ≤ 1000000) : Calls Tryz.prog 29 #[.string s] w (RetV (.bool (keyOk (nb s))) w) := by
 refine (keyRef_any s w hs).mono ?_
 rintro e w' ⟨rfl, rfl⟩
 exact ⟨rfl, gr_refl _ _⟩
theorem eqS_nb (s t : ByteArray) : (s.toList == t.toList) = (nb s == nb t) := by
 rw [Bool.eq_iff_iff, beq_iff_eq, beq_iff_eq, ByteArray.toList_eq, ByteArray.toList_eq]
 exact ⟨fun h => by unfold nb; rw [h], fun h => by rw [nb_inj h]⟩
end
end Go.Proofs.YteppdabhloieaaaGreatDoor
namespace Go.Proofs.YteppdabhloieaaaGreatDoor
section
open Go.RowKit
structure HrV where
 key : ByteArray
 zone : Int
 rA : Option Addr
 rn : Nat
 rc : Nat
 hA : Option Addr
 hn : Nat
 hc : Nat
 rows : List (Int × Int × Int)
 hol : List (Int × Int × Int)
def HrV.row (a : HrV) : List Value := [.string a.key, .int .i64 a.zone, .slice a.rA a.rn a.rc, .slice a.hA a.hn a.hc]
theorem HrV.row_len (a : HrV) : a.row.length = 4 := rfl
def r3Row (p : Int × Int × Int) : List Value := [.int .i64 p.1, .int .i64 p.2.1, .int .i64 p.2.2]
theorem r3Row_len (p : Int × Int × Int) : (r3Row p).length = 3 := rfl
def HrOk (w : World) (lo : Nat) (a : HrV) : Prop := (a.key.size ≤ 1000 ∧ a.rn ≤ 1000 ∧ a.hn ≤ 1000) ∧ Recs r3Row 3 w lo a.rA a.rn a.rc a.rows ∧ Recs r3Row 3 w lo a.hA a.hn a.hc a.hol
def Hrs (w : World) (lo : Nat) (A : Option Addr) (n c : Nat) (l : List HrV) : Prop := Recs HrV.row 4 w lo A n c l ∧ ∀ a ∈ l, HrOk w lo a
theorem HrOk.grown {w w' : World} {lo : Nat} {a : HrV} (h : HrOk w lo a) {r : Option Nat} (hg : w.grownBy w' r) (hr : ∀ g, r = some g → g < lo) : HrOk w' lo a := ⟨h.1, h.2.1.grown hg hr, h.2.2.grown hg hr⟩
theorem Hrs.grown {w w' : World} {lo : Nat} {A : Option Addr} {n c : Nat} {l : List HrV} (h : Hrs w lo A n c l) {r : Option Nat} (hg : w.grownBy w' r) (hr : ∀ g, r = some g → g < lo) : Hrs w' lo A n c l :=
 ⟨h.1.grown hg hr, fun a ha => (h.2 a ha).grown hg hr⟩
def timB (a b : Int) : Bool := decide (0 ≤ a) && (decide (a < b) && decide (b ≤ 1440))
def rwB (r : Int × Int × Int) : Bool := inB r.1 1 127 && timB r.2.1 r.2.2
def hoB (d : Int × Int × Int) : Bool := inB d.1 0 4000 && ((decide (d.2.1 = 0) && decide (d.2.2 = 0)) || timB d.2.1 d.2.2)
def rwAt (l : List (Int × Int × Int)) (i : Nat) : Int := (l[i]?).elim 0 fun r => if rwB r then 0 else 1
def hoAt (l : List (Int × Int × Int)) (i : Nat) : Int := (l[i]?).elim 0 fun d => if hoB d then (if decide (0 < i) && (l[i - 1]?).elim false (fun p => decide (d.1 ≤ p.1)) then 7 else 0) else 1
def htE (rn : Nat) (rows : List (Int × Int × Int)) (hn : Nat) (hol : List (Int × Int × Int)) : Int :=
 if 50 < rn then 2 else (if fstE (rwAt rows) rn = 0 then (if 200 < hn then 2 else fstE (hoAt hol) hn) else fstE (rwAt rows) rn)
def hrE (a : HrV) : Int := htE a.rn a.rows a.hn a.hol
def hrAt (l : List HrV) (i : Nat) : Int := (l[i]?).elim 0 fun a =>
 if keyOk (nb a.key) then (if decide (0 < i) && (l[i - 1]?).elim false (fun b => leS a.key b.key) then 7 else (if inB a.zone (-1440) 1440 then hrE a else 1)) else 5
def hrsE (l : List HrV) : Int := if 50 < l.length then 2 else fstE (hrAt l) l.length
section
variable {l : List (Int × Int × Int)} {i : Nat} {z b : Int × Int × Int}
theorem rwAt_1 (h : l[i]? = some z) (h1 : rwB z = false) : rwAt l i = 1 := by simp [rwAt, h, h1]
theorem rwAt_0 (h : l[i]? = some z) (h1 : rwB z = true) : rwAt l i = 0 := by simp [rwAt, h, h1]
theorem hoAt_1 (h : l[i]? = some z) (h1 : hoB z = false) : hoAt l i = 1 := by simp [hoAt, h, h1]
theorem hoAt_7 (h : l[i]? = some z) (h1 : hoB z = true) (hi : 0 < i) (hb : l[i - 1]? = some b) (h3 : z.1 ≤ b.1) : hoAt l i = 7 := by simp [hoAt, h, h1, hi, hb, h3]
theorem hoAt_e (h : l[i]? = some z) (h1 : hoB z = true) (hb : l[i - 1]? = some b) (h3 : ¬ z.1 ≤ b.1) : hoAt l i = 0 := by simp only [hoAt, h, Option.elim, h1, hb, decide_eq_false h3, Bool.and_false]; rfl
theorem hoAt_z (h : l[i]? = some z) (h1 : hoB z = true) (hi : ¬ 0 < i) : hoAt l i = 0 := by simp only [hoAt, h, Option.elim, h1, decide_eq_false hi, Bool.false_and]; rfl
end
section
variable {l : List HrV} {i : Nat} {z b : HrV}
theorem hrAt_5 (h : l[i]? = some z) (h1 : keyOk (nb z.key) = false) : hrAt l i = 5 := by simp only [hrAt, h, Option.elim, h1]; rfl
theorem hrAt_7 (h : l[i]? = some z) (h1 : keyOk (nb z.key) = true) (hi : 0 < i) (hb : l[i - 1]? = some b) (h3 : leS z.key b.key = true) : hrAt l i = 7 := by simp only [hrAt, h, Option.elim, h1, hb, h3, decide_eq_true hi]; rfl
theorem hrAt_e (h : l[i]? = some z) (h1 : keyOk (nb z.key) = true) (hb : l[i - 1]? = some b) (h3 : leS z.key b.key = false) : hrAt l i = if inB z.zone (-1440) 1440 then hrE z else 1 := by simp only [hrAt, h, Option.elim, h1, hb, h3, Bool.and_false]; rfl
theorem hrAt_z (h : l[i]? = some z) (h1 : keyOk (nb z.key) = true) (hi : ¬ 0 < i) : hrAt l i = if inB z.zone (-1440) 1440 then hrE z else 1 := by simp only [hrAt, h, Option.elim, h1, decide_eq_false hi, Bool.false_and]; rfl
end
def lastH (l : List HrV) (k : Nat) : ByteArray := if k = 0 then ⟨#[]⟩ else (l[k - 1]?).elim ⟨#[]⟩ (·.key)
theorem lastH_succ {l : List HrV} {k : Nat} {z : HrV} (h : l[k]? = some z) : lastH l (k + 1) = z.key := by unfold lastH; rw [if_neg (by omega), Nat.add_sub_cancel, h]; rfl
theorem keyOk_full {s : ByteArray} (h : keyOk (nb s) = true) : s.toList ≠ [] := by
 intro e
 have : nb s = [] := by unfold nb; rw [← ByteArray.toList_eq, e]; rfl
 rw [this] at h
 exact absurd h (by decide)
theorem hrAt_last {l : List HrV} {k : Nat} {z : HrV} (h : l[k]? = some z) (h1 : keyOk (nb z.key) = true) : hrAt l k = if leS z.key (lastH l k) then 7 else (if inB z.zone (-1440) 1440 then hrE z else 1) := by
 by_cases hk : 0 < k
 · have hl := (List.getElem?_eq_some_iff.1 h).1
   obtain ⟨b, hb⟩ : ∃ b, l[k - 1]? = some b := ⟨_, List.getElem?_eq_getElem (by omega)⟩
   have e : lastH l k = b.key := by unfold lastH; rw [if_neg (by omega), hb]; rfl
   rw [e]
   cases h3 : leS z.key b.key
   · rw [hrAt_e h h1 hb h3]; rfl
   · rw [hrAt_7 h h1 hk hb h3]; rfl
 · have e : lastH l k = ⟨#[]⟩ := by unfold lastH; rw [if_pos (by omega)]
   have h3 : leS z.key ⟨#[]⟩ = false := by
     unfold leS
     have h4 : (⟨#[]⟩ : ByteArray).toList = [] := by rw [ByteArray.toList_eq]
     rw [h4, Bool.or_eq_false_iff]
     refine ⟨?_, by rw [beq_eq_false_iff_ne]; exact keyOk_full h1⟩
     unfold Op.bytesLess
     cases z.key.toList <;> rfl
   rw [e, h3, hrAt_z h h1 hk]; rfl
theorem fstE_alh {f : Nat → Int} {n i : Nat} (h : fstE f n = 0) (hi : i < n) : f i = 0 := by
 rcases Int.lt_trichotomy (f i) 0 with h1 | h1 | h1
 · by_cases h2 : fstE f i = 0
   · rw [fstE_stop h2 (by omega) hi] at h; omega
   · exfalso
     clear h1
     induction n with
     | zero => omega
     | succ n ih =>
       unfold fstE at h
       by_cases h3 : fstE f n = 0
       · by_cases e : i = n
         · subst e; exact h2 h3
         · exact ih h3 (by omega)
       · rw [if_neg h3] at h; exact h3 h
 · exact h1
 · by_cases h2 : fstE f i = 0
   · rw [fstE_stop h2 (by omega) hi] at h; omega
   · exfalso
     clear h1
     induction n with
     | zero => omega
     | succ n ih =>
       unfold fstE at h
       by_cases h3 : fstE f n = 0
       · by_cases e : i = n
         · subst e; exact h2 h3
         · exact ih h3 (by omega)
       · rw [if_neg h3] at h; exact h3 h
def RightH (zone : Int) (rows hol : List (Int × Int × Int)) : Prop := (-1440 ≤ zone ∧ zone ≤ 1440) ∧ (rows.length ≤ 50 ∧ hol.length ≤ 200) ∧ (∀ r ∈ rows, (1 ≤ r.1 ∧ r.1 ≤ 127) ∧ 0 ≤ r.2.1 ∧ r.2.1 ≤ 1440 ∧ 0 ≤ r.2.2 ∧ r.2.2 ≤ 1440) ∧ ∀ r ∈ hol, 0 ≤ r.2.1 ∧ r.2.1 ≤ 1440 ∧ 0 ≤ r.2.2 ∧ r.2.2 ≤ 1440
theorem right_of {a : HrV} (hr : a.rows.length = a.rn) (hh : a.hol.length = a.hn) (h : hrsE [a] = 0) : RightH a.zone a.rows a.hol := by
 have h1 : hrAt [a] 0 = 0 := fstE_alh (n := 1) (show fstE (hrAt [a]) 1 = 0 from h) (by omega)
 have h2 : hrAt [a] 0 = if keyOk (nb a.key) then (if inB a.zone (-1440) 1440 then hrE a else 1) else 5 := rfl
 rw [h2] at h1
 by_cases c1 : keyOk (nb a.key) = true
 · rw [if_pos c1] at h1
   by_cases c2 : inB a.zone (-1440) 1440 = true
   · rw [if_pos c2] at h1
     have c2' : -1440 ≤ a.zone ∧ a.zone ≤ 1440 := by unfold inB at c2; simpa using c2
     unfold hrE htE at h1
     by_cases c3 : 50 < a.rn
     · rw [if_pos c3] at h1; omega
     · rw [if_neg c3] at h1
       by_cases c4 : fstE (rwAt a.rows) a.rn = 0
       · rw [if_pos c4] at h1
         by_cases c5 : 200 < a.hn
         · rw [if_pos c5] at h1; omega
         · rw [if_neg c5] at h1
           refine ⟨c2', ⟨by omega, by omega⟩, fun r hrm => ?_, fun r hrm => ?_⟩
           · obtain ⟨i, hi⟩ := List.mem_iff_getElem?.1 hrm
             have hl := (List.getElem?_eq_some_iff.1 hi).1
             have := fstE_alh c4 (show i < a.rn by omega)
             cases c6 : rwB r
             · rw [rwAt_1 hi c6] at this; omega
             · unfold rwB inB timB at c6
               simp only [Bool.and_eq_true, decide_eq_true_eq] at c6
               omega
           · obtain ⟨i, hi⟩ := List.mem_iff_getElem?.1 hrm
             have hl := (List.getElem?_eq_some_iff.1 hi).1
             have := fstE_alh h1 (show i < a.hn by omega)
             cases c6 : hoB r
             · rw [hoAt_1 hi c6] at this; omega
             · unfold hoB inB timB at c6
               simp only [Bool.and_eq_true, Bool.or_eq_true, decide_eq_true_eq] at c6
               omega
       · rw [if_neg c4] at h1; exact absurd h1 c4
   · rw [if_neg c2] at h1; omega
 · rw [if_neg c1] at h1; omega
end
end Go.Proofs.YteppdabhloieaaaGreatDoor
namespace Go.Proofs.YteppdabhloieaaaGreatDoor
section
open Go.RowKit
structure RuV where
 pat : ByteArray
 strip : Int
 pre : ByteArray
 to_ : Int
 nam : ByteArray
 hrs : ByteArray
def RuV.row (r : RuV) : List Value := [.string r.pat, .int .i64 r.strip, .string r.pre, .int .i64 r.to_, .string r.nam, .string r.hrs]
theorem RuV.row_len (r : RuV) : r.row.length = 6 := rfl
def RuOk (r : RuV) : Prop := r.pat.size ≤ 1000000 ∧ r.pre.size ≤ 1000000 ∧ r.nam.size ≤ 1000000 ∧ r.hrs.size ≤ 1000000
structure CxV where
 key : ByteArray
 rA : Option Addr
 rn : Nat
 rc : Nat
 iA : Option Addr
 en : Nat
 ic : Nat
 rules : List RuV
 incs : List ByteArray
def CxV.row (c : CxV) : List Value := [.string c.key, .slice c.rA c.rn c.rc, .slice c.iA c.en c.ic]
theorem CxV.row_len (c : CxV) : c.row.length = 3 := rfl
structure CxOk (w : World) (lo : Nat) (c : CxV) : Prop where
 key : c.key.size ≤ 1000000
 rn : c.rn ≤ 1000000
 en : c.en ≤ 1000000
 rules : Recs RuV.row 6 w lo c.rA c.rn c.rc c.rules
 incs : Recs srow 1 w lo c.iA c.en c.ic c.incs
 rok : ∀ r ∈ c.rules, RuOk r
 iok : ∀ s ∈ c.incs, s.size ≤ 1000000
structure PlV where
 cA : Option Addr
 cn : Nat
 cc : Nat
 hA : Option Addr
 hn : Nat
 hc : Nat
 ctxs : List CxV
 hours : List HrV
structure PlOk (w : World) (lo : Nat) (p : PlV) : Prop where
 cn : p.cn ≤ 1000000
 hn : p.hn ≤ 1000000
 ctxs : Recs CxV.row 3 w lo p.cA p.cn p.cc p.ctxs
 cok : ∀ c ∈ p.ctxs, CxOk w lo c
 hours : Hrs w lo p.hA p.hn p.hc p.hours
section
variable {w w' : World} {lo : Nat} {r : Option Nat}
theorem CxOk.grown {c : CxV} (h : CxOk w lo c) (hg : w.grownBy w' r) (hr : ∀ g, r = some g → g < lo) : CxOk w' lo c := ⟨h.key, h.rn, h.en, h.rules.grown hg hr, h.incs.grown hg hr, h.rok, h.iok⟩
theorem PlOk.grown {p : PlV} (h : PlOk w lo p) (hg : w.grownBy w' r) (hr : ∀ g, r = some g → g < lo) : PlOk w' lo p := ⟨h.cn, h.hn, h.ctxs.grown hg hr, fun c hc => (h.cok c hc).grown hg hr, h.hours.grown hg hr⟩
end
def preOk (l : List Nat) : Bool := decide (l.length ≤ 30) && l.all (fun b => decide (b ∈ sgn))
def hrsOk (hs : List HrV) (k : ByteArray) : Bool := decide (nb k = []) || hs.any (fun h => nb h.key == nb k)
def sameR (r x : RuV) : Bool := (nb x.pat == nb r.pat) && (nb x.hrs == nb r.hrs)
def ruE2 (hs : List HrV) (prev : List RuV) (r : RuV) : Int := if hrsOk hs r.hrs = true then (if prev.any (sameR r) = true then 6 else 0) else 8
def ruE1 (hs : List HrV) (prev : List RuV) (r : RuV) : Int :=
 if inB r.to_ 3 5 = true then (if keyOk (nb r.nam) = true then ruE2 hs prev r else 5) else (if nb r.nam = [] then ruE2 hs prev r else 3)
def ruE (hs : List HrV) (prev : List RuV) (r : RuV) : Int :=
 if patF (nb r.pat) = 0 then (if inB r.strip 0 30 = true then (if preOk (nb r.pre) = true then (if inB r.to_ 1 6 = true then ruE1 hs prev r else 4) else 3) else 1) else patF (nb r.pat)
def ruAt (hs : List HrV) (rules : List RuV) (i : Nat) : Int := (rules[i]?).elim 0 (ruE hs (rules.take i))
def incAt (incs : List ByteArray) (k : Nat) : Int := (incs[k]?).elim 0 fun s => if memS (incs.take k) s = true then 6 else 0
def cxE (hs : List HrV) (c : CxV) : Int :=
 if 200 < c.rn then 2 else (if fstE (ruAt hs c.rules) c.rn = 0 then (if 10 < c.en then 2 else fstE (incAt c.incs) c.en) else fstE (ruAt hs c.rules) c.rn)
def cxAt (hs : List HrV) (l : List CxV) (i : Nat) : Int := (l[i]?).elim 0 fun c =>
 if keyOk (nb c.key) then (if decide (0 < i) && (l[i - 1]?).elim false (fun b => leS c.key b.key) then 7 else cxE hs c) else 5
def cxIx (l : List CxV) (key : ByteArray) : Int := idxP (fun c : CxV => nb c.key == nb key) l
def misC (l : List CxV) (c : CxV) : Bool := c.incs.any fun s => decide (cxIx l s < 0)
def misB (l : List CxV) : Bool := l.any (misC l)
def incIx (l : List CxV) (i : Nat) : List Nat := (((l[i]?).elim [] (·.incs)).map fun s => (cxIx l s).toNat)
inductive Path (S : Nat → List Nat) : Nat → Nat → Prop
 | one {i j : Nat} : j ∈ S i → Path S i j
 | more {i j k : Nat} : j ∈ S i → Path S j k → Path S i k
def Loops (l : List CxV) : Prop := ∃ i, i < l.length ∧ Path (incIx l) i i
def plE (p : PlV) (LB : Bool) : Int :=
 if hrsE p.hours = 0 then (if 50 < p.cn then 2 else (if fstE (cxAt p.hours p.ctxs) p.cn = 0 then (if misB p.ctxs = true then 8 else (if LB = true then 14 else 0)) else fstE (cxAt p.hours p.ctxs) p.cn)) else hrsE p.hours
section
variable {hs : List HrV} {prev : List RuV} {r : RuV}
theorem ruE_p (h : patF (nb r.pat) ≠ 0) : ruE hs prev r = patF (nb r.pat) := by unfold ruE; rw [if_neg h]
theorem ruE_1 (h : patF (nb r.pat) = 0) (h1 : inB r.strip 0 30 = false) : ruE hs prev r = 1 := by unfold ruE; rw [if_pos h, if_neg (by rw [h1]; decide)]
theorem ruE_3 (h : patF (nb r.pat) = 0) (h1 : inB r.strip 0 30 = true) (h2 : preOk (nb r.pre) = false) : ruE hs prev r = 3 := by unfold ruE; rw [if_pos h, if_pos h1, if_neg (by rw [h2]; decide)]
theorem ruE_4 (h : patF (nb r.pat) = 0) (h1 : inB r.strip 0 30 = true) (h2 : preOk (nb r.pre) = true) (h3 : inB r.to_ 1 6 = false) : ruE hs prev r = 4 := by unfold ruE; rw [if_pos h, if_pos h1, if_pos h2, if_neg (by rw [h3]; decide)]
theorem ruE_s (h : patF (nb r.pat) = 0) (h1 : inB r.strip 0 30 = true) (h2 : preOk (nb r.pre) = true) (h3 : inB r.to_ 1 6 = true) : ruE hs prev r = ruE1 hs prev r := by unfold ruE; rw [if_pos h, if_pos h1, if_pos h2, if_pos h3]
theorem ruE1_5 (h4 : inB r.to_ 3 5 = true) (h5 : keyOk (nb r.nam) = false) : ruE1 hs prev r = 5 := by unfold ruE1; rw [if_pos h4, if_neg (by rw [h5]; decide)]
theorem ruE1_n (h4 : inB r.to_ 3 5 = true) (h5 : keyOk (nb r.nam) = true) : ruE1 hs prev r = ruE2 hs prev r := by unfold ruE1; rw [if_pos h4, if_pos h5]
theorem ruE1_3 (h4 : inB r.to_ 3 5 = false) (h5 : nb r.nam ≠ []) : ruE1 hs prev r = 3 := by unfold ruE1; rw [if_neg (by rw [h4]; decide), if_neg h5]
theorem ruE1_u (h4 : inB r.to_ 3 5 = false) (h5 : nb r.nam = []) : ruE1 hs prev r = ruE2 hs prev r := by unfold ruE1; rw [if_neg (by rw [h4]; decide), if_pos h5]
end
section
variable {hs : List HrV} {l : List CxV} {i : Nat} {z b : CxV}
theorem cxAt_5 (h : l[i]? = some z) (h1 : keyOk (nb z.key) = false) : cxAt hs l i = 5 := by simp only [cxAt, h, Option.elim, h1]; rfl
theorem cxAt_7 (h : l[i]? = some z) (h1 : keyOk (nb z.key) = true) (hi : 0 < i) (hb : l[i - 1]? = some b) (h3 : leS z.key b.key = true) : cxAt hs l i = 7 := by simp only [cxAt, h, Option.elim, h1, hb, h3, decide_eq_true hi]; rfl
theorem cxAt_e (h : l[i]? = some z) (h1 : keyOk (nb z.key) = true) (hb : l[i - 1]? = some b) (h3 : leS z.key b.key = false) : cxAt hs l i = cxE hs z := by simp only [cxAt, h, Option.elim, h1, hb, h3, Bool.and_false]; rfl
theorem cxAt_z (h : l[i]? = some z) (h1 : keyOk (nb z.key) = true) (hi : ¬ 0 < i) : cxAt hs l i = cxE hs z := by simp only [cxAt, h, Option.elim, h1, decide_eq_false hi, Bool.false_and]; rfl
def lastC (l : List CxV) (k : Nat) : ByteArray := if k = 0 then ⟨#[]⟩ else (l[k - 1]?).elim ⟨#[]⟩ (·.key)
theorem lastC_succ {k : Nat} (h : l[k]? = some z) : lastC l (k + 1) = z.key := by unfold lastC; rw [if_neg (by omega), Nat.add_sub_cancel, h]; rfl
theorem leS_none {s : ByteArray} (h1 : keyOk (nb s) = true) : leS s ⟨#[]⟩ = false := by
 unfold leS
 have h4 : (⟨#[]⟩ : ByteArray).toList = [] := by rw [ByteArray.toList_eq]
 rw [h4, Bool.or_eq_false_iff]
 refine ⟨?_, by rw [beq_eq_false_iff_ne]; exact keyOk_full h1⟩
 unfold Op.bytesLess
 cases s.toList <;> rfl
theorem cxAt_last {k : Nat} (h : l[k]? = some z) (h1 : keyOk (nb z.key) = true) : cxAt hs l k = if leS z.key (lastC l k) then 7 else cxE hs z := by
 by_cases hk : 0 < k
 · have hl := (List.getElem?_eq_some_iff.1 h).1
   obtain ⟨b, hb⟩ : ∃ b, l[k - 1]? = some b := ⟨_, List.getElem?_eq_getElem (by omega)⟩
   have e : lastC l k = b.key := by unfold lastC; rw [if_neg (by omega), hb]; rfl
   rw [e]
   cases h3 : leS z.key b.key
   · rw [cxAt_e h h1 hb h3]; rfl
   · rw [cxAt_7 h h1 hk hb h3]; rfl
 · have e : lastC l k = ⟨#[]⟩ := by unfold lastC; rw [if_pos (by omega)]
   rw [e, leS_none h1, cxAt_z h h1 hk]; rfl
end
theorem plE_right {p : PlV} {LB : Bool} (h : plE p LB = 0) : hrsE p.hours = 0 ∧ p.cn ≤ 50 ∧ fstE (cxAt p.hours p.ctxs) p.cn = 0 ∧ misB p.ctxs = false ∧ LB = false := by
 unfold plE at h
 by_cases c1 : hrsE p.hours = 0
 · rw [if_pos c1] at h
   by_cases c2 : 50 < p.cn
   · rw [if_pos c2] at h; omega
   · rw [if_neg c2] at h
     by_cases c3 : fstE (cxAt p.hours p.ctxs) p.cn = 0
     · rw [if_pos c3] at h
       cases c4 : misB p.ctxs
       · rw [if_neg (by rw [c4]; decide)] at h
         cases LB
         · exact ⟨c1, by omega, c3, rfl, rfl⟩
         · rw [if_pos rfl] at h; omega
       · rw [if_pos c4] at h; omega
     · rw [if_neg c3] at h; exact absurd h c3
 · rw [if_neg c1] at h; exact absurd h c1
structure CxRight (hs : List HrV) (c : CxV) : Prop where
 key : keyOk (nb c.key) = true
 rn : c.rn ≤ 200
 en : c.en ≤ 10
 rules : ∀ i, i < c.rn → ruAt hs c.rules i = 0
theorem cx_right {hs : List HrV} {l : List CxV} {i : Nat} {c : CxV} (h : l[i]? = some c) (e : cxAt hs l i = 0) : CxRight hs c ∧ (∀ b, 0 < i → l[i - 1]? = some b → leS c.key b.key = false) := by
 cases h1 : keyOk (nb c.key)
 · rw [cxAt_5 h h1] at e; omega
 · rw [cxAt_last h h1] at e
   cases h2 : leS c.key (lastC l i)
   · rw [if_neg (by rw [h2]; decide)] at e
     unfold cxE at e
     by_cases c2 : 200 < c.rn
     · rw [if_pos c2] at e; omega
     · rw [if_neg c2] at e
       by_cases c3 : fstE (ruAt hs c.rules) c.rn = 0
       · rw [if_pos c3] at e
         by_cases c4 : 10 < c.en
         · rw [if_pos c4] at e; omega
         · refine ⟨⟨h1, by omega, by omega, fun i hi => fstE_alh c3 hi⟩, fun b hi hb => ?_⟩
           have : lastC l i = b.key := by unfold lastC; rw [if_neg (by omega), hb]; rfl
           rw [← this]; exact h2
       · rw [if_neg c3] at e; exact absurd e c3
   · rw [if_pos h2] at e; omega
end
end Go.Proofs.YteppdabhloieaaaGreatDoor
namespace Go.Proofs.YteppdabhloieaaaGreatDoor
section
open Go.RowKit
def dialOk (l : List Nat) : Bool := decide (1 ≤ l.length) && decide (l.length ≤ 30) && l.all (fun b => decide (b ∈ sgn))
theorem head_drop {p : UInt8 → Bool} {l : List UInt8} {a : UInt8} {r : List UInt8} (h : l.dropWhile p = a :: r) : p a = false := by
 induction l with
 | nil => cases h
 | cons b l ih =>
   rw [List.dropWhile_cons] at h
   split at h
   · exact ih h
   · rename_i hp
     injection h with h1 h2
     subst h1
     simpa using hp
theorem drop_all {p : UInt8 → Bool} {l : List UInt8} : l.dropWhile p = [] ↔ ∀ a ∈ l, p a = true := by
 induction l with
 | nil => simp
 | cons b l ih =>
   rw [List.dropWhile_cons]
   by_cases hp : p b = true
   · rw [if_pos hp, ih]; simp [hp]
   · rw [if_neg hp]; simp [hp]
theorem trim_nil (l cs : List UInt8) : Lib.trimS l cs = [] ↔ ∀ b ∈ l, cs.contains b = true := by
 unfold Lib.trimS Lib.trimLeftS Lib.trimRightS
 rw [drop_all]
 constructor
 · intro h
   cases hd : l.reverse.dropWhile (cs.contains ·) with
   | nil =>
     have := drop_all.1 hd
     intro b hb
     exact this b (by simpa using hb)
   | cons a r =>
     exfalso
     have h1 := head_drop hd
     have h2 := h a (by rw [hd]; simp)
     rw [h1] at h2
     cases h2
 · intro h
   have : l.reverse.dropWhile (cs.contains ·) = [] := drop_all.2 (fun a ha => h a (by simpa using ha))
   rw [this]
   simp
theorem sgn_contains : ∀ c : Fin 256, ([35, 42, 48, 49, 50, 51, 52, 53, 54, 55, 56, 57] : List UInt8).contains c.val.toUInt8 = decide (c.val ∈ sgn) := by decide +kernel
theorem trim_signs (s : ByteArray) : (Lib.trimS s.data.toList [35, 42, 48, 49, 50, 51, 52, 53, 54, 55, 56, 57] = []) ↔ ∀ b ∈ nb s, b ∈ sgn := by
 rw [trim_nil]
 unfold nb
 constructor
 · intro h b hb
   obtain ⟨u, hu, rfl⟩ := List.mem_map.1 hb
   have h1 := h u hu
   have h2 := sgn_contains ⟨u.toNat, u.toNat_lt⟩
   dsimp only at h2
   rw [show u.toNat.toUInt8 = u by simp, h1] at h2
   exact of_decide_eq_true h2.symm
 · intro h u hu
   have h2 := sgn_contains ⟨u.toNat, u.toNat_lt⟩
   dsimp only at h2
   rw [show u.toNat.toUInt8 = u by simp, decide_eq_true (h _ (List.mem_map.2 ⟨u, hu, rfl⟩))] at h2
   exact h2
theorem trim_any (s : ByteArray) (w : World) (hs : s.size ≤ 1000000) : Calls Tryz.prog 134 #[.string s, .string ⟨#[35, 42, 48, 49, 50, 51, 52, 53, 54, 55, 56, 57]⟩] w
   (RetV (.string ⟨(Lib.trimS s.data.toList [35, 42, 48, 49, 50, 51, 52, 53, 54, 55, 56, 57]).toArray⟩) w) := by
 refine (Any.strings_Trim_laid Tryz.lays160 (by kernel_rfl) s ⟨#[35, 42, 48, 49, 50, 51, 52, 53, 54, 55, 56, 57]⟩ w (by omega) (by decide) (ascii_of_all (by decide))).mono ?_
 rintro e w' ⟨rfl, hb⟩
 exact ⟨rfl, gr_below hb none⟩
set_option maxHeartbeats 2000000 in
theorem isDialled_any (s : ByteArray) (w : World) (hs : s.size ≤ 1000000) : Calls Tryz.prog 104 #[.string s, .int .i64 1] w (RetV (.bool (dialOk (nb s))) w) := by
 have hlen := nb_len s
 have HD := Lib.hid (show dialOk (nb s) = (decide (1 ≤ s.size) && decide (s.size ≤ 30) && (nb s).all (fun b => decide (b ∈ sgn))) by unfold dialOk; rw [hlen])
 clear hlen
 by_cases h1 : 1 ≤ s.size
 · have q1 : decide ((1 : Int) ≤ (s.size : Int)) = true := decide_eq_true (by omega)
   by_cases h2 : s.size ≤ 30
   · have q2 : decide ((s.size : Int) ≤ 30) = true := decide_eq_true (by omega)
     obtain ⟨u, hu⟩ : ∃ u : ByteArray, (⟨(Lib.trimS s.data.toList [35, 42, 48, 49, 50, 51, 52, 53, 54, 55, 56, 57]).toArray⟩ : ByteArray) = u := ⟨_, rfl⟩
     have HU := Lib.hid hu
     obtain ⟨B, hB⟩ : ∃ B, (nb s).all (fun b => decide (b ∈ sgn)) = B := ⟨_, rfl⟩
     have HB := Lib.hid (show dialOk (nb s) = B by rw [HD.out, decide_eq_true h1, decide_eq_true h2, hB]; rfl)
     have hul : u.toList = Lib.trimS s.data.toList [35, 42, 48, 49, 50, 51, 52, 53, 54, 55, 56, 57] := by rw [← hu]; exact ByteArray.toList_mk _
     cases B
     · have q3 : ¬ u.toList = [] := fun h => by
         rw [hul, trim_signs] at h
         have : (nb s).all (fun b => decide (b ∈ sgn)) = true := List.all_eq_true.2 (fun b hb => decide_eq_true (h b hb))
         rw [hB] at this; cases this
       have q4 : (u.toList == []) = false := by rw [beq_eq_false_iff_ne]; exact q3
       have q5 : u.toList.isEmpty = false := by rw [List.isEmpty_eq_false_iff]; exact q3
       clear hu hB hul q3
       go_enter Tryz.func104, Tryz.ntmps104
       go_wp2_with (first
         | (go_at_call 134; refine (trim_any s _ hs).mono ?_; rintro e w' ⟨rfl, hg⟩; rw [HU.out]; have HG := Lib.hid hg; clear hg)
         | fail)
       go_ret
       exact ⟨by rw [HB.out]; rfl, HG.out⟩
     · have q3 : u.toList = [] := by
         rw [hul, trim_signs]
         intro b hb
         exact of_decide_eq_true (List.all_eq_true.1 hB b hb)
       clear hu hB hul
       go_enter Tryz.func104, Tryz.ntmps104
       go_wp2_with (first
         | (go_at_call 134; refine (trim_any s _ hs).mono ?_; rintro e w' ⟨rfl, hg⟩; rw [HU.out]; have HG := Lib.hid hg; clear hg)
         | fail)
       go_ret
       exact ⟨by rw [HB.out]; rfl, HG.out⟩
   · have q2 : decide ((s.size : Int) ≤ 30) = false := decide_eq_false (by omega)
     have HB := Lib.hid (show dialOk (nb s) = false by rw [HD.out, decide_eq_false h2]; simp)
     go_enter Tryz.func104, Tryz.ntmps104
     go_wp2_with fail
     go_ret
     exact ⟨by rw [HB.out]; rfl, gr_refl _ _⟩
 · have q1 : decide ((1 : Int) ≤ (s.size : Int)) = false := decide_eq_false (by omega)
   have HB := Lib.hid (show dialOk (nb s) = false by rw [HD.out, decide_eq_false h1]; simp)
   go_enter Tryz.func104, Tryz.ntmps104
   go_wp2_with fail
   go_ret
   exact ⟨by rw [HB.out]; rfl, gr_refl _ _⟩
theorem match_bad {x : List Nat × Nat} {d : List Nat} {i : Nat} (hr : Right x) (hi : i < d.length) (hs : d.getD i 0 ∈ sgn) (h : hasM (takesL x i).1 (d.getD i 0) = false) : matchL x d = false := by
 rw [takes_fst hr] at h
 by_cases ho : over x i = true
 · exact over_no ho hi
 · rw [if_neg ho] at h
   unfold mAt at h
   by_cases hl : i < x.1.length
   · rw [if_pos hl] at h
     unfold matchL
     split
     · rfl
     · rw [ins_false (i := i) (fun hm => by rw [(mem_setStr.1 hm).2] at h; cases h) hl]; rfl
   · rw [if_neg hl] at h
     have : d.getD i 0 ∈ setStr 4095 := by rw [setStr_all]; exact hs
     rw [(mem_setStr.1 this).2] at h; cases h
theorem match_good {x : List Nat × Nat} {d : List Nat} (hr : Right x) (hs : ∀ b ∈ d, b ∈ sgn) (h : ∀ i, i < d.length → hasM (takesL x i).1 (d.getD i 0) = true) : matchL x d = (takesL x d.length).2 := by
 refine match_eq hr (fun i hi => ?_)
 have h1 := h i hi
 have hmem : d.getD i 0 ∈ sgn := hs _ (by rw [List.getD_eq_getElem?_getD, List.getElem?_eq_getElem hi]; exact List.getElem_mem _)
 rw [takes_fst hr] at h1
 split at h1
 · simp [hasM] at h1
 · exact of_decide_eq_true (by rw [mem_setAt hmem]; exact h1)
set_option maxRecDepth 100000 in
set_option maxHeartbeats 4000000 in
theorem begins_any (A : Option Addr) (n c : Nat) (x : List Nat × Nat) (s : ByteArray) (w : World) (h : Ints .u16 w 0 A n c (u16L x.1)) (hr : Right x) (hn : n ≤ 30) (hs : s.size ≤ 30) (hd : ∀ b ∈ nb s, b ∈ sgn) :
   Calls Tryz.prog 105 #[.agg #[.slice A n c, .int .u8 x.2], .string s] w (RetP (fun v _ => ∃ B, v = .tuple #[.bool B, .bool (matchL x (nb s))]) w) := by
 have H := Lib.hid h; have HR := Lib.hid hr; have HD := Lib.hid hd
 have HB := Lib.hid (Blk.new w 86 #[.slice A n c, .int .u8 x.2])
 clear h hr hd
 go_enter Tryz.func105, Tryz.ntmps105
 go_wp2_with fail
 have HG0 := Lib.hid (gr_alloc (gr_refl w none) (.cells #[.slice A n c, .int .u8 x.2] 86))
 generalize w.alloc (.cells #[.slice A n c, .int .u8 x.2] 86) = wb at *
 go_loopw [6, 7, 8, 12] (fun _ _ _ t wr => ∃ i : Nat, i ≤ s.size ∧ t = .int .i64 i ∧ (∀ j, j < i → hasM (takesL x j).1 ((nb s).getD j 0) = true) ∧ wb.grownBy wr none) (fun _ _ _ t _ => s.size - (intOf t).toNat)
 case atStart => exact ⟨0, Nat.zero_le _, rfl, fun j hj => by omega, gr_refl _ _⟩
 case round =>
   obtain ⟨i, hi, rfl, hin, hg⟩ := hrel
   have HIN := Lib.hid hin; have HG := Lib.hid hg
   clear hin hg
   by_cases hil : i < s.size
   · obtain ⟨b, hb⟩ : ∃ b, s[i].toNat = b := ⟨_, rfl⟩
     have hgb : (nb s).getD i 0 = b := by rw [← nb_get hil, hb]
     have hmem : b ∈ sgn := HD.out b (by rw [← hgb, List.getD_eq_getElem?_getD, List.getElem?_eq_getElem (by rw [nb_len]; exact hil)]; exact List.getElem_mem _)
     have HMEM := Lib.hid hmem
     have HGB := Lib.hid hgb
     obtain ⟨M, E, hT⟩ : ∃ M E, takesL x i = (M, E) := ⟨_, _, rfl⟩
     have HTK := Lib.hid hT
     have hM : M < 4096 := by
       have := congrArg Prod.fst hT
       dsimp only at this
       rw [← this, takes_fst HR.out]
       split
       · omega
       · exact mAt_bd HR.out i
     have hz := and_has hM hmem
     clear hmem hgb hT
     cases hh : hasM M b
     · have hz1 : (bits .and .u16 (M : Int) (onlyM b : Nat) == 0) = true := by rw [hz.1, hh]; rfl
       have HV := Lib.hid (show matchL x (nb s) = false from match_bad HR.out (i := i) (by rw [nb_len]; exact hil) (by rw [HGB.out]; exact HMEM.out) (by rw [HGB.out, HTK.out]; exact hh))
       clear hz hh
       go_wp2_with (first
         | (refine wpl_load_all Tryz.patT rfl _ rfl _ rfl _ _ (HB.out.grown HG.out (by simp)) rfl ?_)
         | (go_at_call 116
            refine (takes_any A n c i x _ ((H.out.grown HG0.out gn_).grown HG.out gn_) (by omega) (by omega)).mono ?_
            rintro e w3 ⟨rfl, hg3⟩
            rw [HTK.out]
            have HG3 := Lib.hid hg3
            clear hg3)
         | (go_at_call 152; refine (only_any b _ HMEM.out).mono ?_; rintro e w' ⟨rfl, rfl⟩)
         | fail)
       go_ret2
       exact ⟨_, rfl, ⟨_, by rw [HV.out]; rfl⟩, gr_none HG0.out (gr_none HG.out HG3.out)⟩
     · have hz1 : (bits .and .u16 (M : Int) (onlyM b : Nat) == 0) = false := by rw [hz.1, hh]; rfl
       have HHH := Lib.hid hh
       clear hz hh
       go_wp2_with (first
         | (refine wpl_load_all Tryz.patT rfl _ rfl _ rfl _ _ (HB.out.grown HG.out (by simp)) rfl ?_)
         | (go_at_call 116
            refine (takes_any A n c i x _ ((H.out.grown HG0.out gn_).grown HG.out gn_) (by omega) (by omega)).mono ?_
            rintro e w3 ⟨rfl, hg3⟩
            rw [HTK.out]
            have HG3 := Lib.hid hg3
            clear hg3)
         | (go_at_call 152; refine (only_any b _ HMEM.out).mono ?_; rintro e w' ⟨rfl, rfl⟩)
         | fail)
       go_roundw
       case rel => exact ⟨i + 1, by omega, by go_num, fun j hj => by
         rcases Nat.lt_succ_iff_lt_or_eq.1 hj with h1 | h1
         · exact HIN.out j h1
         · subst h1; rw [HGB.out, HTK.out]; exact HHH.out, gr_none HG.out HG3.out⟩
       case measure => simp [intOf]; omega
   · obtain rfl : i = s.size := by omega
     obtain ⟨M, E, hT⟩ : ∃ M E, takesL x s.size = (M, E) := ⟨_, _, rfl⟩
     have HTK := Lib.hid hT
     have HV := Lib.hid (show matchL x (nb s) = E by
       rw [match_good HR.out HD.out (fun j hj => HIN.out j (by rw [nb_len] at hj; exact hj)), nb_len, hT])
     have d0 : decide ((s.size : Int) < (s.size : Int)) = false := decide_eq_false (by omega)
     obtain ⟨Z, hZ⟩ : ∃ Z, ((M : Int) != 0) = Z := ⟨_, rfl⟩
     clear hT
     cases Z
     all_goals
       go_wp2_with (first
         | (refine wpl_load_all Tryz.patT rfl _ rfl _ rfl _ _ (HB.out.grown HG.out (by simp)) rfl ?_)
         | (go_at_call 116
            refine (takes_any A n c s.size x _ ((H.out.grown HG0.out gn_).grown HG.out gn_) (by omega) (by omega)).mono ?_
            rintro e w3 ⟨rfl, hg3⟩
            rw [HTK.out]
            have HG3 := Lib.hid hg3
            clear hg3)
         | fail)
       go_ret2
       exact ⟨_, rfl, ⟨_, by rw [HV.out]; rfl⟩, gr_none HG0.out (gr_none HG.out HG3.out)⟩
end
end Go.Proofs.YteppdabhloieaaaGreatDoor
namespace Go.Proofs.YteppdabhloieaaaGreatDoor
section
open Go.RowKit
theorem cmp_bytes (l m : List UInt8) : Lib.compareBytes l m = cmpL (ints (l.map UInt8.toNat)) (ints (m.map UInt8.toNat)) := by
 induction l generalizing m with
 | nil => cases m <;> rfl
 | cons a l ih =>
   cases m with
   | nil => rfl
   | cons b m =>
     simp only [Lib.compareBytes, ints, List.map_cons, cmpL, cmpI]
     have hab : a < b ↔ (a.toNat : Int) < (b.toNat : Int) := by rw [UInt8.lt_iff_toNat_lt]; omega
     have hba : b < a ↔ (b.toNat : Int) < (a.toNat : Int) := by rw [UInt8.lt_iff_toNat_lt]; omega
     by_cases h1 : a < b
     · simp [h1, hab.1 h1]
     · have h1' : ¬ (a.toNat : Int) < (b.toNat : Int) := fun h => h1 (hab.2 h)
       by_cases h2 : b < a
       · simp [h1, h1', h2, hba.1 h2]
       · have h2' : ¬ (b.toNat : Int) < (a.toNat : Int) := fun h => h2 (hba.2 h)
         simp only [h1, h1', h2, h2', if_false, if_true]
         have := ih m
         unfold ints at this
         exact this
theorem strCompare_any (s t : ByteArray) (w : World) : Calls Tryz.prog 115 #[.string s, .string t] w (Same (.int .i64 (cmpL (ints (nb s)) (ints (nb t)))) w) := by
 refine (Tryz.strings_Compare s t w).mono ?_
 rintro e w' ⟨rfl, rfl⟩
 exact ⟨by rw [cmp_bytes]; rfl, rfl⟩
theorem cmpInt_any (a b : Int) (w : World) : Calls Tryz.prog 114 #[.int .i64 a, .int .i64 b] w (Same (.int .i64 (cmpI a b)) w) := by
 refine (Tryz.cmp_Compare_int a b w).mono ?_
 rintro e w' ⟨rfl, rfl⟩
 exact ⟨rfl, rfl⟩
def orI (a b : Int) : Int := if a = 0 then b else a
set_option maxHeartbeats 2000000 in
theorem or_new (a b : Int) (W : World) {g : Nat} (hg : W.heap.size = g) : Calls Tryz.prog 113 #[.slice (some ⟨g, 0, none⟩) 2 2] (W.alloc (.cells #[.int .i64 a, .int .i64 b] 3)) (RetV (.int .i64 (orI a b)) W) := by
 subst hg
 have HB := Lib.hid (Blk.new W 3 #[.int .i64 a, .int .i64 b])
 have HG := Lib.hid (gr_alloc (gr_refl W none) (.cells #[.int .i64 a, .int .i64 b] 3))
 generalize W.alloc (.cells #[.int .i64 a, .int .i64 b] 3) = w1 at *
 have c0 : w1.cell? ⟨W.heap.size, 0, none⟩ = some (.int .i64 a) := HB.out.cell 0
 have c1 : w1.cell? ⟨W.heap.size, 1, none⟩ = some (.int .i64 b) := HB.out.cell 1
 go_enter Tryz.func113, Tryz.ntmps113
 go_wp2_with fail
 go_loop [5, 8] (fun _ t => ∃ i : Nat, i ≤ 2 ∧ t = .int .i64 i ∧ (1 ≤ i → a = 0) ∧ (2 ≤ i → b = 0)) (fun _ t => 2 - (intOf t).toNat)
 case atStart => exact ⟨0, by omega, rfl, by omega, by omega⟩
 case round =>
   obtain ⟨i, hi, rfl, h1, h2⟩ := hrel
   have H1 := Lib.hid h1; have H2 := Lib.hid h2
   clear h1 h2
   rcases (by omega : i = 0 ∨ i = 1 ∨ i = 2) with rfl | rfl | rfl
   · by_cases hz : a = 0
     · have q : (a != 0) = false := by simp [hz]
       have HA := Lib.hid hz; clear hz
       go_wp2_with fail
       go_round
       case rel => exact ⟨1, by omega, rfl, fun _ => HA.out, fun h => by omega⟩
       case measure => simp [intOf]
     · have q : (a != 0) = true := by simpa using hz
       have HA := Lib.hid (show orI a b = a by unfold orI; rw [if_neg hz]); clear hz
       go_wp2_with fail
       go_ret
       exact ⟨by rw [HA.out]; rfl, HG.out⟩
   · have ha := H1.out (by omega)
     have HA := Lib.hid (show orI a b = b by unfold orI; rw [if_pos ha]); 
     have HA0 := Lib.hid ha; clear ha
     by_cases hz : b = 0
     · have q : (b != 0) = false := by simp [hz]
       have HBZ := Lib.hid hz; clear hz
       go_wp2_with fail
       go_round
       case rel => exact ⟨2, by omega, rfl, fun _ => HA0.out, fun _ => HBZ.out⟩
       case measure => simp [intOf]
     · have q : (b != 0) = true := by simpa using hz
       clear hz
       go_wp2_with fail
       go_ret
       exact ⟨by rw [HA.out]; rfl, HG.out⟩
   · have HA := Lib.hid (show orI a b = 0 by unfold orI; rw [if_pos (H1.out (by omega)), H2.out (by omega)])
     go_wp2_with fail
     go_ret
     exact ⟨by rw [HA.out]; rfl, HG.out⟩
def strTo (M : Nat) : Nat → List Nat
 | 0 => []
 | i + 1 => strTo M i ++ (if M.testBit i then [sgn.getD i 0] else [])
theorem strTo_len (M i : Nat) : (strTo M i).length ≤ i := by
 induction i with
 | zero => simp [strTo]
 | succ i ih => unfold strTo; rw [List.length_append]; split <;> simp <;> omega
theorem strTo_take (M i : Nat) (hi : i ≤ 12) : strTo M i = (sgn.take i).filter (fun c => hasM M c) := by
 induction i with
 | zero => simp [strTo]
 | succ i ih =>
   have hl : i < sgn.length := by simp [sgn]; omega
   rw [strTo, ih (by omega), List.take_succ_eq_append_getElem hl, List.filter_append]
   congr 1
   have h1 : sgn.getD i 0 = sgn[i] := by rw [List.getD_eq_getElem?_getD, List.getElem?_eq_getElem hl]; rfl
   have h2 : sgIx sgn[i] = i := by
     have : ∀ j : Fin 12, sgIx (sgn.getD j.val 0) = j.val := by decide +kernel
     have := this ⟨i, by omega⟩
     dsimp only at this
     rw [h1] at this
     exact this
   rw [h1, List.filter_cons, List.filter_nil, hasM_bit, h2]
theorem strTo_all (M : Nat) : strTo M 12 = setStr M := by rw [strTo_take M 12 (by omega)]; rfl
theorem bit16 (M i : Nat) (hM : M < 65536) : bits .and .u16 ((M : Int) / 2 ^ i) 1 = if M.testBit i then 1 else 0 := by
 have e : (M : Int) / 2 ^ i = ((M / 2 ^ i : Nat) : Int) := by rw [Int.natCast_ediv, Int.natCast_pow]; rfl
 have hle : M / 2 ^ i ≤ M := Nat.div_le_self _ _
 have h := u16_and (M / 2 ^ i) 1 (by omega) (by omega)
 rw [Nat.and_one_is_mod] at h
 have h4 : ((1 : Nat) : Int) = 1 := rfl
 rw [h4] at h
 rw [e, h, Nat.testBit_eq_decide_div_mod_eq]
 by_cases hc : M / 2 ^ i % 2 = 1
 · simp [hc]
 · have : M / 2 ^ i % 2 = 0 := by omega
   simp [this]
set_option maxRecDepth 100000 in
set_option maxHeartbeats 4000000 in
theorem rank_any (A : Option Addr) (n c k : Nat) (x : List Nat × Nat) (w : World) (h : Ints .u16 w 0 A n c (u16L x.1)) (hr : Right x) (hn : n ≤ 30) (hk : k ≤ 100) :
   Calls Tryz.prog 112 #[.agg #[.slice A n c, .int .u8 x.2], .int .i64 k] w (RetV (.tuple #[.int .i64 (rankL x k).1, .string (strN (rankL x k).2)]) w) := by
 obtain ⟨S, t⟩ := x
 dsimp only at h ⊢
 have hlen : S.length = n := by rw [← u16L_len, h.len]
 have HRR := Lib.hid hr; clear hr
 by_cases hkn : k < n
 · obtain ⟨g, o, z, rfl, _, hgl, hz, hc⟩ := h.get hkn
   have HV := Lib.hid (show rankL (S, t) k = ((setStr (S.getD k 0)).length, setStr (S.getD k 0)) by unfold rankL; rw [if_pos (by dsimp only; omega)])
   have hz' := u16L_get hz
   have hM : S.getD k 0 < 4096 := HRR.out.2 _ (by dsimp only; rw [List.getD_eq_getElem?_getD, List.getElem?_eq_getElem (by omega)]; exact List.getElem_mem _)
   generalize S.getD k 0 = M at *
   subst hz'
   obtain ⟨sg, hsg⟩ : ∃ sg, (⟨#[35, 42, 48, 49, 50, 51, 52, 53, 54, 55, 56, 57]⟩ : ByteArray) = sg := ⟨_, rfl⟩
   have HSG := Lib.hid (show nb sg = sgn by rw [← hsg]; exact nb_signs)
   have sgz : 12 ≤ sg.size := by rw [← nb_len, HSG.out]; decide
   have hap := strN_append
   clear hz h
   have HLN := Lib.hid hlen; clear hlen
   have q0 : k < n := hkn
   go_enter Tryz.func112, Tryz.ntmps112
   go_wp2_with fail
   go_loop [7, 8, 20] (fun v _ t => ∃ i : Nat, i ≤ 12 ∧ t = .int .i64 i ∧ v = .string (strN (strTo M i))) (fun _ _ t => 12 - (intOf t).toNat)
   case atStart => exact ⟨0, by omega, rfl, rfl⟩
   case round =>
     obtain ⟨i, hi, rfl, rfl⟩ := hrel
     have hsl := strTo_len M i
     have hss : (strN (strTo M i)).size ≤ 12 := by rw [strN_size]; omega
     by_cases hil : i < 12
     · have d1 : decide ((i : Int) < 12) = true := decide_eq_true (by omega)
       have hbt := bit16 M i (by omega)
       have hx := ext_one (s := sg) (i := i) (by omega)
       rw [HSG.out] at hx
       obtain ⟨b, hb⟩ : ∃ b, sgn.getD i 0 = b := ⟨_, rfl⟩
       rw [hb] at hx
       have HBB := Lib.hid hb
       have hxs : (strN [b]).size ≤ 1 := by rw [strN_size]; simp
       have hdz : (i : Int) + 1 ≤ (sg.size : Int) := by omega
       clear hb
       cases hbit : M.testBit i
       · rw [hbit, if_neg (by simp)] at hbt
         have HN := Lib.hid (show strTo M (i + 1) = strTo M i by rw [strTo, hbit]; simp)
         clear hbit
         go_wp2_with fail
         go_round
         case rel => exact ⟨i + 1, by omega, by go_num, by rw [HN.out]⟩
         case measure => simp [intOf]; omega
       · rw [hbit, if_pos rfl] at hbt
         have HN := Lib.hid (show strTo M (i + 1) = strTo M i ++ [b] by rw [strTo, hbit, HBB.out]; rfl)
         clear hbit
         go_wp2_with fail
         go_round
         case rel => exact ⟨i + 1, by omega, by go_num, by rw [HN.out]⟩
         case measure => simp [intOf]; omega
     · obtain rfl : i = 12 := by omega
       rw [strTo_all] at hss ⊢
       obtain ⟨u, hu⟩ : ∃ u, strN (setStr M) = u := ⟨_, rfl⟩
       have HU := Lib.hid hu
       have HUZ := Lib.hid (show u.size = (setStr M).length by rw [← hu, strN_size])
       rw [hu] at hss ⊢
       clear hu
       go_wp2_with fail
       go_ret2
       exact ⟨by rw [HV.out, ← HUZ.out, HU.out]; rfl, gr_alloc (gr_refl _ _) _⟩
 · have e0 : ¬ k < S.length := by omega
   have q1 : decide (k < n) = false := decide_eq_false hkn
   have q2 : decide ((k : Int) < (n : Int)) = false := decide_eq_false (by omega)
   clear h
   by_cases hke : k = n
   · have q3 : ((k : Int) == (n : Int)) = true := by rw [beq_iff_eq]; omega
     have q3' : (k == n) = true := by rw [beq_iff_eq]; exact hke
     have HKE := Lib.hid (show k = S.length by omega)
     clear hke
     by_cases h46 : t = 46
     · subst h46
       have HV := Lib.hid (show rankL (S, 46) k = (100, []) by unfold rankL; rw [if_neg e0, if_pos ⟨HKE.out, rfl⟩])
       clear e0 hlen
       go_enter Tryz.func112, Tryz.ntmps112
       go_wp2_with fail
       go_ret2
       exact ⟨by rw [HV.out]; rfl, gr_alloc (gr_refl _ _) _⟩
     · obtain ⟨b1, b1'⟩ := beq_no h46
       by_cases h33 : t = 33
       · subst h33
         have HV := Lib.hid (show rankL (S, 33) k = (102, []) by unfold rankL; rw [if_neg e0, if_neg (by simp), if_pos ⟨HKE.out, rfl⟩])
         clear e0 hlen
         go_enter Tryz.func112, Tryz.ntmps112
         go_wp2_with fail
         go_ret2
         exact ⟨by rw [HV.out]; rfl, gr_alloc (gr_refl _ _) _⟩
       · obtain ⟨b2, b2'⟩ := beq_no h33
         have HV := Lib.hid (show rankL (S, t) k = (101, []) by unfold rankL; rw [if_neg e0, if_neg (by simp [h46]), if_neg (by simp [h33])])
         clear e0 hlen
         go_enter Tryz.func112, Tryz.ntmps112
         go_wp2_with fail
         go_ret2
         exact ⟨by rw [HV.out]; rfl, gr_alloc (gr_refl _ _) _⟩
   · have q3 : ((k : Int) == (n : Int)) = false := by rw [beq_eq_false_iff_ne]; omega
     have q3' : (k == n) = false := by rw [beq_eq_false_iff_ne]; exact hke
     have hkl : ¬ k = S.length := by omega
     have HV := Lib.hid (show rankL (S, t) k = (101, []) by unfold rankL; rw [if_neg e0, if_neg (fun h => hkl h.1), if_neg (fun h => hkl h.1)])
     clear e0 hlen hkl hke
     go_enter Tryz.func112, Tryz.ntmps112
     go_wp2_with fail
     go_ret2
     exact ⟨by rw [HV.out]; rfl, gr_alloc (gr_refl _ _) _⟩
theorem rank_bd (x : List Nat × Nat) (k : Nat) : (rankL x k).1 ≤ 102 ∧ ∀ b ∈ (rankL x k).2, b < 256 := by
 unfold rankL
 split
 · exact ⟨by have := setStr_len (x.1.getD k 0); dsimp only; omega, setStr_bd _⟩
 · split
   · simp
   · split <;> simp
def BfLoop (wb : World) (x y : List Nat × Nat) (N : Nat) (v : Value) (wr : World) : Prop := ∃ k : Nat, v = .int .i64 k ∧ k ≤ N + 1 ∧ befF x y (N + 1 - k) k = befL x y ∧ wb.grownBy wr none
set_option maxRecDepth 100000 in
set_option maxHeartbeats 4000000 in
theorem before_any (A A' : Option Addr) (n c n' c' : Nat) (x y : List Nat × Nat) (w : World) (h : Ints .u16 w 0 A n c (u16L x.1)) (h' : Ints .u16 w 0 A' n' c' (u16L y.1)) (hr : Right x) (hr' : Right y) (hn : n ≤ 30) (hn' : n' ≤ 30) :
   Calls Tryz.prog 52 #[.agg #[.slice A n c, .int .u8 x.2], .agg #[.slice A' n' c', .int .u8 y.2]] w (RetV (.int .i64 (befL x y)) w) := by
 have hl : x.1.length = n := by rw [← u16L_len, h.len]
 have hl' : y.1.length = n' := by rw [← u16L_len, h'.len]
 have HX := Lib.hid ((Blk.new w 86 #[.slice A n c, .int .u8 x.2]).alloc (.cells #[.slice A' n' c', .int .u8 y.2] 86))
 have HY := Lib.hid (show Blk ((w.alloc (.cells #[.slice A n c, .int .u8 x.2] 86)).alloc (.cells #[.slice A' n' c', .int .u8 y.2] 86)) (w.heap.size + 1) 86 #[.slice A' n' c', .int .u8 y.2] from by
   have h := Blk.new (w.alloc (.cells #[.slice A n c, .int .u8 x.2] 86)) 86 #[.slice A' n' c', .int .u8 y.2]
   simpa using h)
 have HG0 := Lib.hid (gr_alloc (gr_alloc (gr_refl w none) (.cells #[.slice A n c, .int .u8 x.2] 86)) (.cells #[.slice A' n' c', .int .u8 y.2] 86))
 have H := Lib.hid h; have H' := Lib.hid h'; have HR := Lib.hid hr; have HR' := Lib.hid hr'
 obtain ⟨N, hN⟩ : ∃ N, max n n' = N := ⟨_, rfl⟩
 have HBL := Lib.hid (show befL x y = befF x y (N + 1) 0 by unfold befL; rw [hl, hl', hN])
 have HNX := Lib.hid (show max x.1.length y.1.length = N by rw [hl, hl', hN])
 have hN30 : N ≤ 30 := by omega
 have hmx : max (n : Int) (n' : Int) = (N : Int) := by omega
 clear h h' hr hr' hl hl' hN
 go_enter Tryz.func52, Tryz.ntmps52
 go_wp2_with fail
 generalize (w.alloc (.cells #[.slice A n c, .int .u8 x.2] 86)).alloc (.cells #[.slice A' n' c', .int .u8 y.2] 86) = wb at *
 go_loopw [5, 6, 7, 8, 9, 10] (fun t _ _ _ _ _ wr => BfLoop wb x y N t wr) (fun t _ _ _ _ _ _ => N + 1 - (intOf t).toNat)
 case atStart => exact ⟨0, rfl, by omega, by rw [HBL.out]; rfl, gr_refl _ _⟩
 case round =>
   obtain ⟨k, rfl, hk, hbf, hg⟩ := hrel
   have HF := Lib.hid hbf; have HG := Lib.hid hg
   have cX := (HX.out.grown hg (by simp)).cell
   have cY := (HY.out.grown hg (by simp)).cell
   clear hbf hg
   by_cases hkN : k ≤ N
   · have d1 : decide ((k : Int) ≤ (N : Int)) = true := decide_eq_true (by omega)
     have d1' : decide (k ≤ N) = true := decide_eq_true hkN
     obtain ⟨f, hf⟩ : ∃ f, N + 1 - k = f + 1 := ⟨N - k, by omega⟩
     have HFF := Lib.hid hf
     obtain ⟨q, hq⟩ : ∃ q, rkC x y k = q := ⟨_, rfl⟩
     have HS := Lib.hid (show (if q = 0 then befF x y f (k + 1) else q) = befL x y by rw [← HF.out, hf, befF, if_pos (show k ≤ max x.1.length y.1.length by rw [HNX.out]; exact hkN), hq])
     obtain ⟨a, s1, hr1⟩ : ∃ a s1, rankL x k = (a, s1) := ⟨_, _, rfl⟩
     obtain ⟨b, s2, hr2⟩ : ∃ b s2, rankL y k = (b, s2) := ⟨_, _, rfl⟩
     have ha := (rank_bd x k).1
     have hb := (rank_bd y k).1
     have HN1 := Lib.hid (show nb (strN s1) = s1 from nb_strN (by have := (rank_bd x k).2; rw [hr1] at this; exact this))
     have HN2 := Lib.hid (show nb (strN s2) = s2 from nb_strN (by have := (rank_bd y k).2; rw [hr2] at this; exact this))
     rw [hr1] at ha
     rw [hr2] at hb
     dsimp only at ha hb
     have HQ := Lib.hid (show orI (cmpI a b) (cmpL (ints s1) (ints s2)) = q by
       rw [← hq]
       unfold rkC orI
       rw [hr1, hr2])
     have HR1 := Lib.hid hr1; have HR2 := Lib.hid hr2
     clear hf hq hr1 hr2
     by_cases hq0 : q = 0
     · have b1 : (q != 0) = false := by simp [hq0]
       have HN := Lib.hid (show befF x y f (k + 1) = befL x y by rw [← HS.out, if_pos hq0])
       clear hq0
       go_wp2_with (first
         | (refine wpl_load_all Tryz.patT rfl _ rfl _ rfl _ _ (HX.out.grown HG.out (by simp)) rfl ?_)
         | (refine wpl_load_all Tryz.patT rfl _ rfl _ rfl _ _ (HY.out.grown HG5.out (by simp)) rfl ?_)
         | (go_at_call 112
            ((with_reducible refine (rank_any A n c k x _ ((H.out.grown HG0.out gn_).grown HG.out gn_) HR.out hn (by omega)).mono ?_)
             rintro e w5 ⟨rfl, hg5⟩
             rw [HR1.out]
             have HG5 := Lib.hid (gr_none HG.out hg5)
             clear hg5))
         | (go_at_call 112
            ((with_reducible refine (rank_any A' n' c' k y _ ((H'.out.grown HG0.out gn_).grown HG5.out gn_) HR'.out hn' (by omega)).mono ?_)
             rintro e w6 ⟨rfl, hg6⟩
             rw [HR2.out]
             have HG6 := Lib.hid (gr_none HG5.out hg6)
             clear hg6))
         | (go_at_call 114; refine (cmpInt_any a b _).mono ?_; rintro e w' ⟨rfl, rfl⟩)
         | (go_at_call 115; refine (strCompare_any (strN s1) (strN s2) _).mono ?_; rintro e w' ⟨rfl, rfl⟩; rw [HN1.out, HN2.out])
         | (go_at_call 113
            refine (or_new _ _ _ rfl).mono ?_
            rintro e w7 ⟨rfl, hg7⟩
            rw [HQ.out]
            have HG7 := Lib.hid (gr_none HG6.out hg7)
            clear hg7)
         | fail)
       go_roundw
       case rel => exact ⟨k + 1, by go_num, by omega, by rw [show N + 1 - (k + 1) = f by have := HFF.out; omega]; exact HN.out, HG7.out⟩
       case measure => simp [intOf]; omega
     · have b1 : (q != 0) = true := by simpa using hq0
       have HN := Lib.hid (show befL x y = q by rw [← HS.out, if_neg hq0])
       clear hq0
       go_wp2_with (first
         | (refine wpl_load_all Tryz.patT rfl _ rfl _ rfl _ _ (HX.out.grown HG.out (by simp)) rfl ?_)
         | (refine wpl_load_all Tryz.patT rfl _ rfl _ rfl _ _ (HY.out.grown HG5.out (by simp)) rfl ?_)
         | (go_at_call 112
            ((with_reducible refine (rank_any A n c k x _ ((H.out.grown HG0.out gn_).grown HG.out gn_) HR.out hn (by omega)).mono ?_)
             rintro e w5 ⟨rfl, hg5⟩
             rw [HR1.out]
             have HG5 := Lib.hid (gr_none HG.out hg5)
             clear hg5))
         | (go_at_call 112
            ((with_reducible refine (rank_any A' n' c' k y _ ((H'.out.grown HG0.out gn_).grown HG5.out gn_) HR'.out hn' (by omega)).mono ?_)
             rintro e w6 ⟨rfl, hg6⟩
             rw [HR2.out]
             have HG6 := Lib.hid (gr_none HG5.out hg6)
             clear hg6))
         | (go_at_call 114; refine (cmpInt_any a b _).mono ?_; rintro e w' ⟨rfl, rfl⟩)
         | (go_at_call 115; refine (strCompare_any (strN s1) (strN s2) _).mono ?_; rintro e w' ⟨rfl, rfl⟩; rw [HN1.out, HN2.out])
         | (go_at_call 113
            refine (or_new _ _ _ rfl).mono ?_
            rintro e w7 ⟨rfl, hg7⟩
            rw [HQ.out]
            have HG7 := Lib.hid (gr_none HG6.out hg7)
            clear hg7)
         | fail)
       go_ret
       exact ⟨by rw [HN.out]; rfl, gr_none HG0.out HG7.out⟩
   · obtain rfl : k = N + 1 := by omega
     have d1 : decide (((N + 1 : Nat) : Int) ≤ (N : Int)) = false := decide_eq_false (by omega)
     have d1' : decide ((N : Int) + 1 ≤ (N : Int)) = false := decide_eq_false (by omega)
     have HN := Lib.hid (show befL x y = 0 by rw [← HF.out, Nat.sub_self]; rfl)
     go_wp2_with fail
     go_ret
     exact ⟨by rw [HN.out]; rfl, gr_none HG0.out HG.out⟩
set_option maxHeartbeats 2000000 in
theorem checkPattern_any (s : ByteArray) (w : World) : Calls Tryz.prog 217 #[.string s] w (RetV (.int .i64 (patF (nb s))) w) := by
 go_enter Tryz.func217, Tryz.ntmps217
 go_wp2_with fail
 refine (read_all s _).mono ?_
 rintro e w1 ⟨v1, rfl, hv1, hg1⟩
 have HG := Lib.hid hg1; clear hg1
 rcases hv1 with ⟨x, A, n, c, h1, rfl, h3, h4⟩ | ⟨h1, rfl⟩
 · have HV := Lib.hid (patF_some h1)
   clear h1 h3
   go_wp2_with fail
   go_ret
   exact ⟨by rw [HV.out]; rfl, gr_alloc HG.out _⟩
 · clear h1
   go_wp2_with fail
   go_ret
   exact ⟨rfl, gr_alloc HG.out _⟩
end
end Go.Proofs.YteppdabhloieaaaGreatDoor
namespace Go.Proofs.YteppdabhloieaaaGreatDoor
section
open Go.RowKit
set_option maxHeartbeats 2000000 in
theorem onlyRef_any (s u : ByteArray) (w : World) (hs : s.size ≤ 1000000000) : Calls Tryz.prog 63 #[.string s, .string u] w (Same (.bool ((nb s).all (fun b => decide (b ∈ nb u)))) w) := by
 go_enter Tryz.func63, Tryz.ntmps63
 go_wp2_with fail
 go_loop [5, 8] (fun _ t => ∃ i : Nat, i ≤ s.size ∧ t = .int .i64 i ∧ ∀ j, j < i → (nb s).getD j 0 ∈ nb u) (fun _ t => s.size - (intOf t).toNat)
 case atStart => exact ⟨0, Nat.zero_le _, rfl, fun j hj => by omega⟩
 case round =>
   obtain ⟨i, hi, rfl, hin⟩ := hrel
   have HIN := Lib.hid hin; clear hin
   by_cases hil : i < s.size
   · obtain ⟨q, hq⟩ : ∃ q, s[i].toNat = q := ⟨_, rfl⟩
     have q256 : q < 256 := by rw [← hq]; exact UInt8.toNat_lt _
     have HQ := Lib.hid (show (nb s).getD i 0 = q by rw [← nb_get hil, hq])
     obtain ⟨z, hz⟩ : ∃ z, idxL (nb u) q = z := ⟨_, rfl⟩
     have HZ := Lib.hid hz
     have hi0 := idx_mem (l := nb u) (c := q)
     rw [hz] at hi0
     clear hz
     by_cases hz0 : z < 0
     · have HF := Lib.hid (show (nb s).all (fun b => decide (b ∈ nb u)) = false by
         rw [List.all_eq_false]
         have hl : i < (nb s).length := by rw [nb_len]; exact hil
         refine ⟨q, ?_, by simpa using hi0.2.1 hz0⟩
         rw [← HQ.out, List.getD_eq_getElem?_getD, List.getElem?_eq_getElem hl]
         exact List.getElem_mem _)
       clear hi0
       go_wp2_with (first
         | (go_at_call 69; refine (indexByteN u q _ q256).mono ?_; rintro e w' ⟨rfl, rfl⟩; rw [HZ.out])
         | fail)
       go_ret
       exact ⟨by rw [HF.out]; rfl, rfl⟩
     · have HN := Lib.hid (hi0.1.1 (by omega))
       clear hi0
       go_wp2_with (first
         | (go_at_call 69; refine (indexByteN u q _ q256).mono ?_; rintro e w' ⟨rfl, rfl⟩; rw [HZ.out])
         | fail)
       go_round
       case rel => exact ⟨i + 1, by omega, by go_num, fun j hj => by
         rcases Nat.lt_succ_iff_lt_or_eq.1 hj with h1 | h1
         · exact HIN.out j h1
         · subst h1; rw [HQ.out]; exact HN.out⟩
       case measure => simp [intOf]; omega
   · obtain rfl : i = s.size := by omega
     have HT := Lib.hid (show (nb s).all (fun b => decide (b ∈ nb u)) = true by
       rw [List.all_eq_true]
       intro b hb
       obtain ⟨k, hk, rfl⟩ := List.mem_iff_getElem.1 hb
       have := HIN.out k (by rw [nb_len] at hk; exact hk)
       rw [List.getD_eq_getElem?_getD, List.getElem?_eq_getElem hk] at this
       exact decide_eq_true this)
     have d0 : decide ((s.size : Int) < (s.size : Int)) = false := decide_eq_false (by omega)
     go_wp2_with fail
     go_ret
     exact ⟨by rw [HT.out]; rfl, rfl⟩
def dialE (l : List Nat) : Int := if dialOk l then 0 else 3
set_option maxHeartbeats 2000000 in
theorem dialledFault_any (s : ByteArray) (w : World) (hs : s.size ≤ 1000000000) : Calls Tryz.prog 15 #[.string s] w (Same (.int .i64 (dialE (nb s))) w) := by
 have hlen := nb_len s
 have HD := Lib.hid (show dialOk (nb s) = (inB (s.size : Int) 1 30 && (nb s).all (fun b => decide (b ∈ sgn))) by
   unfold dialOk inB
   rw [hlen]
   congr 1
   rw [Bool.eq_iff_iff]
   simp only [Bool.and_eq_true, decide_eq_true_eq]
   omega)
 clear hlen
 obtain ⟨B1, h1⟩ : ∃ B1, inB (s.size : Int) 1 30 = B1 := ⟨_, rfl⟩
 obtain ⟨B2, h2⟩ : ∃ B2, (nb s).all (fun b => decide (b ∈ sgn)) = B2 := ⟨_, rfl⟩
 have HV := Lib.hid (show dialE (nb s) = if B1 && B2 then 0 else 3 by unfold dialE; rw [HD.out, h1, h2])
 have H1 := Lib.hid h1; have H2 := Lib.hid h2
 clear h1 h2
 cases B1
 · go_enter Tryz.func15, Tryz.ntmps15
   go_wp2_with (first
     | (go_at_call 62; refine (in_any _ _ _ _).mono ?_; rintro e w' ⟨rfl, rfl⟩; rw [H1.out])
     | fail)
   go_ret
   exact ⟨by rw [HV.out]; rfl, rfl⟩
 · cases B2
   all_goals
     go_enter Tryz.func15, Tryz.ntmps15
     go_wp2_with (first
       | (go_at_call 62; refine (in_any _ _ _ _).mono ?_; rintro e w' ⟨rfl, rfl⟩; rw [H1.out])
       | (go_at_call 63; refine (onlyRef_any s _ _ hs).mono ?_; rintro e w' ⟨rfl, rfl⟩; rw [nb_signs, H2.out])
       | fail)
     go_ret
     exact ⟨by rw [HV.out]; rfl, rfl⟩
theorem cmpL_drop {l m : List Int} {i : Nat} {a b : Int} (hl : l[i]? = some a) (hm : m[i]? = some b) : cmpL (l.drop i) (m.drop i) = if cmpI a b = 0 then cmpL (l.drop (i + 1)) (m.drop (i + 1)) else cmpI a b := by
 obtain ⟨h1, rfl⟩ := List.getElem?_eq_some_iff.1 hl
 obtain ⟨h2, rfl⟩ := List.getElem?_eq_some_iff.1 hm
 rw [List.drop_eq_getElem_cons h1, List.drop_eq_getElem_cons h2, cmpL]
theorem cmpL_gt {l m : List Int} {i : Nat} (hl : i < l.length) (hm : m.length ≤ i) : cmpL (l.drop i) (m.drop i) = 1 := by
 rw [List.drop_eq_nil_of_le hm, List.drop_eq_getElem_cons hl]; rfl
theorem cmpL_end {l m : List Int} {i : Nat} (hl : l.length = i) : cmpL (l.drop i) (m.drop i) = if i < m.length then -1 else 0 := by
 rw [List.drop_eq_nil_of_le (by omega)]
 by_cases h : i < m.length
 · rw [if_pos h, List.drop_eq_getElem_cons h]; rfl
 · rw [if_neg h, List.drop_eq_nil_of_le (by omega)]; rfl
set_option maxHeartbeats 2000000 in
theorem sCompare_any (lo lo' : Nat) (A A' : Option Addr) (n c n' c' : Nat) (l m : List Int) (w : World) (h : Ints .i64 w lo A n c l) (h' : Ints .i64 w lo' A' n' c' m) (hn : n ≤ 1000000) (hn' : n' ≤ 1000000) :
   Calls Tryz.prog 130 #[.slice A n c, .slice A' n' c'] w (Same (.int .i64 (cmpL l m)) w) := by
 have H := Lib.hid h; have H' := Lib.hid h'
 have HL := Lib.hid h.len; have HL' := Lib.hid h'.len
 clear h h'
 go_enter Tryz.func130, Tryz.ntmps130
 go_wp2_with fail
 go_loop [5, 6, 7, 8, 11] (fun _ _ _ _ t => ∃ i : Nat, i ≤ n ∧ t = .int .i64 i ∧ cmpL l m = cmpL (l.drop i) (m.drop i)) (fun _ _ _ _ t => n - (intOf t).toNat)
 case atStart => exact ⟨0, Nat.zero_le _, rfl, rfl⟩
 case round =>
   obtain ⟨i, hi, rfl, he⟩ := hrel
   have HE := Lib.hid he; clear he
   by_cases hlt : i < n
   · obtain ⟨g, o, z, rfl, _, _, hz, hc⟩ := H.out.get hlt
     by_cases hm : i < n'
     · obtain ⟨g', o', z', rfl, _, _, hz', hc'⟩ := H'.out.get hm
       have HS := Lib.hid (show cmpL l m = if cmpI z z' = 0 then cmpL (l.drop (i + 1)) (m.drop (i + 1)) else cmpI z z' by rw [HE.out, cmpL_drop hz hz'])
       have d1 : decide ((n' : Int) ≤ (i : Int)) = false := decide_eq_false (by omega)
       have d1' : decide (n' ≤ i) = false := decide_eq_false (by omega)
       obtain ⟨q, hq⟩ : ∃ q, cmpI z z' = q := ⟨_, rfl⟩
       have HQ := Lib.hid hq
       clear hz hz' hq
       by_cases hq0 : q = 0
       · have b1 : (q != 0) = false := by simp [hq0]
         have HN := Lib.hid (show cmpL l m = cmpL (l.drop (i + 1)) (m.drop (i + 1)) by rw [HS.out, HQ.out, if_pos hq0])
         clear hq0
         go_wp2_with (first
           | (go_at_call 114; refine (cmpInt_any z z' _).mono ?_; rintro e w' ⟨rfl, rfl⟩; rw [HQ.out])
           | fail)
         go_round
         case rel => exact ⟨i + 1, by omega, by go_num, HN.out⟩
         case measure => simp [intOf]; omega
       · have b1 : (q != 0) = true := by simpa using hq0
         have HN := Lib.hid (show cmpL l m = q by rw [HS.out, HQ.out, if_neg hq0])
         clear hq0
         go_wp2_with (first
           | (go_at_call 114; refine (cmpInt_any z z' _).mono ?_; rintro e w' ⟨rfl, rfl⟩; rw [HQ.out])
           | fail)
         go_ret
         exact ⟨by rw [HN.out]; rfl, rfl⟩
     · have HN := Lib.hid (show cmpL l m = 1 by rw [HE.out, cmpL_gt (by rw [HL.out]; exact hlt) (by rw [HL'.out]; omega)])
       have d1 : decide ((n' : Int) ≤ (i : Int)) = true := decide_eq_true (by omega)
       have d1' : decide (n' ≤ i) = true := decide_eq_true (by omega)
       clear hz
       go_wp2_with fail
       go_ret
       exact ⟨by rw [HN.out]; rfl, rfl⟩
   · obtain rfl : i = n := by omega
     have HN := Lib.hid (show cmpL l m = if i < n' then -1 else 0 by rw [HE.out, cmpL_end HL.out, HL'.out])
     by_cases hlt2 : i < n'
     · have d1 : decide ((i : Int) < (n' : Int)) = true := decide_eq_true (by omega)
       have d1' : decide (i < n') = true := decide_eq_true hlt2
       go_wp2_with fail
       go_ret
       exact ⟨by rw [HN.out, if_pos hlt2]; rfl, rfl⟩
     · have d1 : decide ((i : Int) < (n' : Int)) = false := decide_eq_false (by omega)
       have d1' : decide (i < n') = false := decide_eq_false hlt2
       go_wp2_with fail
       go_ret
       exact ⟨by rw [HN.out, if_neg hlt2]; rfl, rfl⟩
theorem befFn_any (lo lo' : Nat) (A A' : Option Addr) (n c n' c' : Nat) (l m : List Int) (w : World) (h : Ints .i64 w lo A n c l) (h' : Ints .i64 w lo' A' n' c' m) (hn : n ≤ 1000000) (hn' : n' ≤ 1000000) :
   Calls Tryz.prog 129 #[.slice A n c, .slice A' n' c'] w (Same (.int .i64 (cmpL l m)) w) := by
 go_enter Tryz.func129, Tryz.ntmps129
 go_wp2_with (first
   | (go_at_call 130; refine (sCompare_any lo lo' A A' n c n' c' l m _ h h' hn hn').mono ?_; rintro e w' ⟨rfl, rfl⟩)
   | fail)
 go_ret
 exact ⟨rfl, rfl⟩
end
end Go.Proofs.YteppdabhloieaaaGreatDoor
namespace Go.Proofs.YteppdabhloieaaaGreatDoor
section
open Go.RowKit
set_option maxHeartbeats 2000000 in
theorem indexS_any (lo : Nat) (A : Option Addr) (n c : Nat) (l : List ByteArray) (s : ByteArray) (w : World) (h : Recs srow 1 w lo A n c l) (hn : n ≤ 1000000000) :
   Calls Tryz.prog 120 #[.slice A n c, .string s] w (Same (.int .i64 (idxP (fun x => nb x == nb s) l)) w) := by
 have H := Lib.hid h; clear h
 go_enter Tryz.func120, Tryz.ntmps120
 go_wp2_with fail
 go_loop [5, 8] (fun _ t => ∃ i : Nat, i ≤ n ∧ t = .int .i64 i ∧ (l.take i).all (fun x => !(nb x == nb s)) = true) (fun _ t => n - (intOf t).toNat)
 case atStart => exact ⟨0, Nat.zero_le _, rfl, rfl⟩
 case round =>
   obtain ⟨i, hi, rfl, ha⟩ := hrel
   have HA := Lib.hid ha; clear ha
   by_cases hlt : i < n
   · obtain ⟨g, o, x, rfl, _, hgl, hz, hcc⟩ := H.out.get srow_len hlt
     have ks := hcc 0 _ rfl
     simp only [Nat.mul_one, Nat.add_zero] at ks
     have HZ := Lib.hid hz; clear hz hcc
     obtain ⟨E, hE⟩ : ∃ E, (s.toList == x.toList) = E := ⟨_, rfl⟩
     have HE := Lib.hid (show (nb x == nb s) = E by rw [← hE, eqS_nb, Bool.eq_iff_iff, beq_iff_eq, beq_iff_eq]; exact eq_comm)
     cases E
     · go_wp2_with fail
       go_round
       case rel => exact ⟨i + 1, by omega, by go_num, allP_succ (p := fun x : ByteArray => nb x == nb s) HA.out HZ.out HE.out⟩
       case measure => simp [intOf]; omega
     · go_wp2_with fail
       go_ret
       exact ⟨by rw [idxP_some (p := fun x : ByteArray => nb x == nb s) HA.out HZ.out HE.out]; rfl, rfl⟩
   · obtain rfl : n = i := by omega
     go_wp2_with fail
     go_ret
     have h := HA.out
     rw [List.take_of_length_le (by rw [H.out.len]; exact Nat.le_refl _)] at h
     exact ⟨by rw [idxP_none (p := fun x : ByteArray => nb x == nb s) h]; rfl, rfl⟩
set_option maxHeartbeats 1000000 in
theorem containsS_any (lo : Nat) (A : Option Addr) (n c : Nat) (l : List ByteArray) (s : ByteArray) (w : World) (h : Recs srow 1 w lo A n c l) (hn : n ≤ 1000000000) :
   Calls Tryz.prog 56 #[.slice A n c, .string s] w (Same (.bool (l.any (fun x => nb x == nb s))) w) := by
 have H := Lib.hid h; clear h
 obtain ⟨I, hI⟩ : ∃ I, idxP (fun x => nb x == nb s) l = I := ⟨_, rfl⟩
 have HI := Lib.hid (show decide (0 ≤ I) = l.any (fun x => nb x == nb s) by rw [← hI]; exact idxP_any)
 have HI2 := Lib.hid hI; clear hI
 go_enter Tryz.func56, Tryz.ntmps56
 go_wp2_with (first
   | (go_at_call 120; refine (indexS_any lo _ _ _ l s _ H.out hn).mono ?_; rintro e w2 ⟨rfl, rfl⟩; rw [HI2.out])
   | fail)
 go_ret
 exact ⟨by rw [← HI.out]; rfl, rfl⟩
end
end Go.Proofs.YteppdabhloieaaaGreatDoor
namespace Go.Proofs.YteppdabhloieaaaGreatDoor
section
theorem Path.snoc {S : Nat → List Nat} {i j k : Nat} (h : Path S i j) (e : k ∈ S j) : Path S i k := by
 induction h with
 | one h => exact .more h (.one e)
 | more h _ ih => exact .more h (ih e)
theorem Path.bd {S : Nat → List Nat} {n i j : Nat} (hS : ∀ i j, j ∈ S i → j < n) (h : Path S i j) : j < n := by
 induction h with
 | one h => exact hS _ _ h
 | more _ _ ih => exact ih
def sAt (st : List Int) (i : Nat) : Int := st.getD i 0
theorem sAt_get {st : List Int} {i : Nat} {v : Int} (h : st[i]? = some v) : sAt st i = v := by unfold sAt; rw [List.getD_eq_getElem?_getD, h]; rfl
theorem sAt_set {st : List Int} {i j : Nat} {v : Int} (hi : i < st.length) : sAt (st.set i v) j = if i = j then v else sAt st j := by
 unfold sAt
 rw [List.getD_eq_getElem?_getD, List.getD_eq_getElem?_getD, List.getElem?_set]
 by_cases e : i = j
 · subst e; simp [hi]
 · rw [if_neg e, if_neg e]
def zer (st : List Int) : Nat := st.count 0
theorem zer_set {st : List Int} {i : Nat} {v : Int} (h : st[i]? = some 0) (hv : v ≠ 0) : zer (st.set i v) < zer st := by
 obtain ⟨hl, e⟩ := List.getElem?_eq_some_iff.1 h
 have h1 : 0 < st.count 0 := List.count_pos_iff.2 (by rw [← e]; exact List.getElem_mem _)
 unfold zer
 rw [List.count_set hl, e]
 simp [hv]
 omega
theorem zer_up {st : List Int} {i : Nat} {v u : Int} (h : st[i]? = some u) (hv : v ≠ 0) : zer (st.set i v) ≤ zer st := by
 obtain ⟨hl, e⟩ := List.getElem?_eq_some_iff.1 h
 unfold zer
 rw [List.count_set hl, e]
 simp [hv]
def DfsInv (S : Nat → List Nat) (n : Nat) (st : List Int) : Prop := st.length = n ∧ (∀ (i : Nat) (v : Int), st[i]? = some v → v = 0 ∨ v = 1 ∨ v = 2) ∧ ∀ b, sAt st b = 2 → (∀ j, j ∈ S b → sAt st j = 2) ∧ ¬ Path S b b
theorem DfsInv.path {S : Nat → List Nat} {n : Nat} {st : List Int} (h : DfsInv S n st) {b k : Nat} (hp : Path S b k) (hb : sAt st b = 2) : sAt st k = 2 := by
 induction hp with
 | one e => exact (h.2.2 _ hb).1 _ e
 | more e _ ih => exact ih ((h.2.2 _ hb).1 _ e)
theorem DfsInv.new (S : Nat → List Nat) (n : Nat) : DfsInv S n (List.replicate n 0) := by
 refine ⟨by simp, fun i v h => ?_, fun b h => ?_⟩
 · rw [List.getElem?_replicate] at h
   split at h
   · injection h with h; exact .inl h.symm
   · cases h
 · unfold sAt at h
   rw [List.getD_eq_getElem?_getD, List.getElem?_replicate] at h
   split at h <;> simp at h
theorem DfsInv.start {S : Nat → List Nat} {n : Nat} {st : List Int} (h : DfsInv S n st) {i : Nat} (hi : st[i]? = some 0) : DfsInv S n (st.set i 1) := by
 have hl := (List.getElem?_eq_some_iff.1 hi).1
 have h0 := sAt_get hi
 refine ⟨by simp [h.1], fun j v hv => ?_, fun b hb => ?_⟩
 · rw [List.getElem?_set] at hv
   split at hv
   · injection hv with hv; exact .inr (.inl hv.symm)
   · exact h.2.1 j v hv
 · rw [sAt_set hl] at hb
   by_cases e : i = b
   · rw [if_pos e] at hb; omega
   · rw [if_neg e] at hb
     refine ⟨fun j hj => ?_, (h.2.2 b hb).2⟩
     have := (h.2.2 b hb).1 j hj
     rw [sAt_set hl]
     by_cases e2 : i = j
     · subst e2; omega
     · rw [if_neg e2]; exact this
theorem DfsInv.done {S : Nat → List Nat} {n : Nat} {st : List Int} (h : DfsInv S n st) {i : Nat} (hi : i < n) (h1 : sAt st i = 1) (hs : ∀ j, j ∈ S i → sAt st j = 2) : DfsInv S n (st.set i 2) := by
 have hl : i < st.length := by rw [h.1]; exact hi
 have hno : ¬ Path S i i := by
   intro hp
   cases hp with
   | one e => have := hs _ e; omega
   | more e hp => have := h.path hp (hs _ e); omega
 refine ⟨by simp [h.1], fun j v hv => ?_, fun b hb => ?_⟩
 · rw [List.getElem?_set] at hv
   split at hv
   · injection hv with hv; exact .inr (.inr hv.symm)
   · exact h.2.1 j v hv
 · rw [sAt_set hl] at hb
   by_cases e : i = b
   · subst e
     refine ⟨fun j hj => ?_, hno⟩
     rw [sAt_set hl]
     by_cases e2 : i = j
     · rw [if_pos e2]
     · rw [if_neg e2]; exact hs j hj
   · rw [if_neg e] at hb
     refine ⟨fun j hj => ?_, (h.2.2 b hb).2⟩
     rw [sAt_set hl]
     by_cases e2 : i = j
     · rw [if_pos e2]
     · rw [if_neg e2]; exact (h.2.2 b hb).1 j hj
def DfsOn (st st' : List Int) : Prop := (∀ g, sAt st' g = 1 ↔ sAt st g = 1) ∧ (∀ b, sAt st b = 2 → sAt st' b = 2) ∧ zer st' ≤ zer st
theorem DfsOn.refl (st : List Int) : DfsOn st st := ⟨fun _ => Iff.rfl, fun _ h => h, Nat.le_refl _⟩
theorem DfsOn.trans {a b c : List Int} (h : DfsOn a b) (k : DfsOn b c) : DfsOn a c := ⟨fun g => (k.1 g).trans (h.1 g), fun g hg => k.2.1 g (h.2.1 g hg), Nat.le_trans k.2.2 h.2.2⟩
def DfsPre (S : Nat → List Nat) (st : List Int) (i : Nat) : Prop := ∀ g, sAt st g = 1 → Path S g i
def DfsPost (S : Nat → List Nat) (n : Nat) (st : List Int) (i : Nat) (b : Bool) (st' : List Int) : Prop :=
 st'.length = n ∧ (b = true → ∃ k, k < n ∧ Path S k k) ∧ (b = false → DfsInv S n st' ∧ DfsOn st st' ∧ sAt st' i = 2)
theorem dfs_pre {S : Nat → List Nat} {st st1 : List Int} {i j : Nat} (hp : DfsPre S st i) (hi : i < st.length) (ho : DfsOn (st.set i 1) st1) (hj : j ∈ S i) : DfsPre S st1 j := by
 intro g hg
 have := (ho.1 g).1 hg
 rw [sAt_set hi] at this
 by_cases e : i = g
 · subst e; exact .one hj
 · rw [if_neg e] at this; exact (hp g this).snoc hj
theorem dfs_post {S : Nat → List Nat} {n : Nat} {st st1 : List Int} {i : Nat} (h0 : st[i]? = some 0) (hin : i < n) (hv : DfsInv S n st1) (ho : DfsOn (st.set i 1) st1) (hs : ∀ j, j ∈ S i → sAt st1 j = 2) : DfsPost S n st i false (st1.set i 2) := by
 have hl := (List.getElem?_eq_some_iff.1 h0).1
 have h1 : sAt st1 i = 1 := (ho.1 i).2 (by rw [sAt_set hl, if_pos rfl])
 have hl1 : i < st1.length := by rw [hv.1]; exact hin
 refine ⟨(by rw [List.length_set]; exact hv.1), (fun e => by cases e), fun _ => ⟨hv.done hin h1 hs, ⟨fun g => ?_, fun b hb => ?_, ?_⟩, by rw [sAt_set hl1, if_pos rfl]⟩⟩
 · rw [sAt_set hl1]
   have e0 := sAt_get h0
   by_cases e : i = g
   · subst e; rw [if_pos rfl]; omega
   · rw [if_neg e]
     have := ho.1 g
     rw [sAt_set hl, if_neg e] at this
     exact this
 · rw [sAt_set hl1]
   by_cases e : i = b
   · rw [if_pos e]
   · rw [if_neg e]
     refine ho.2.1 b ?_
     rw [sAt_set hl, if_neg e]; exact hb
 · have h2 := zer_set (v := 1) h0 (by decide)
   have h3 : zer (st1.set i 2) ≤ zer st1 := zer_up (u := st1[i]) (List.getElem?_eq_getElem hl1) (by decide)
   have := ho.2.2
   omega
theorem dfs_loops {l : List CxV} (h : ∃ k, k < l.length ∧ Path (incIx l) k k) : Loops l := h
theorem dfs_none {l : List CxV} {st : List Int} (hv : DfsInv (incIx l) l.length st) (hs : ∀ i, i < l.length → sAt st i = 2) : ¬ Loops l := by
 rintro ⟨i, hi, hp⟩
 exact (hv.2.2 i (hs i hi)).2 hp
def keysOf (l : List CxV) (is : List Nat) : List ByteArray := is.map fun i => (l[i]?).elim ⟨#[]⟩ (·.key)
def Keyed1 (l : List CxV) : Prop := ∀ (i j : Nat) (a b : CxV), l[i]? = some a → l[j]? = some b → nb a.key = nb b.key → i = j
theorem cxIx_at {l : List CxV} {i : Nat} {z : CxV} (hk : Keyed1 l) (h : l[i]? = some z) {s : ByteArray} (hs : nb z.key = nb s) : cxIx l s = i := by
 unfold cxIx
 refine idxP_some (i := i) (z := z) ?_ h (by simpa using hs)
 rw [List.all_eq_true]
 intro x hx
 obtain ⟨j, hj⟩ := List.mem_iff_getElem?.1 hx
 rw [List.getElem?_take] at hj
 split at hj
 · rename_i hlt
   have : nb x.key ≠ nb s := fun e => by
     have := hk j i x z hj h (e.trans hs.symm)
     omega
   simpa using this
 · cases hj
theorem cxIx_some {l : List CxV} {s : ByteArray} (h : 0 ≤ cxIx l s) : ∃ (i : Nat) (z : CxV), cxIx l s = i ∧ l[i]? = some z ∧ nb z.key = nb s := by
 unfold cxIx at h ⊢
 have ha : l.any (fun c : CxV => nb c.key == nb s) = true := by
   rw [← idxP_any]; exact decide_eq_true h
 obtain ⟨x, hx, hp⟩ := List.any_eq_true.1 ha
 have hlt : l.findIdx (fun c : CxV => nb c.key == nb s) < l.length := List.findIdx_lt_length_of_exists ⟨x, hx, hp⟩
 refine ⟨l.findIdx (fun c : CxV => nb c.key == nb s), l[l.findIdx (fun c : CxV => nb c.key == nb s)], ?_, List.getElem?_eq_getElem hlt, ?_⟩
 · unfold idxP; rw [if_pos ha]
 · have := List.findIdx_getElem (w := hlt)
   simpa using this
theorem mis_no {l : List CxV} (h : misB l = false) {i : Nat} {z : CxV} (hz : l[i]? = some z) {s : ByteArray} (hs : s ∈ z.incs) : 0 ≤ cxIx l s := by
 unfold misB at h
 rw [List.any_eq_false] at h
 have h1 := h z (List.mem_iff_getElem?.2 ⟨i, hz⟩)
 unfold misC at h1
 rw [Bool.not_eq_true, List.any_eq_false] at h1
 have h2 := h1 s hs
 simp at h2
 exact h2
theorem incIx_at {l : List CxV} {i : Nat} {z : CxV} (hz : l[i]? = some z) : incIx l i = z.incs.map fun s => (cxIx l s).toNat := by unfold incIx; rw [hz]; rfl
theorem incIx_bd {l : List CxV} (h : misB l = false) : ∀ i j, j ∈ incIx l i → j < l.length := by
 intro i j hj
 unfold incIx at hj
 cases hz : l[i]? with
 | none => rw [hz] at hj; simp at hj
 | some z =>
   rw [hz] at hj
   obtain ⟨s, hs, rfl⟩ := List.mem_map.1 hj
   obtain ⟨k, y, e, hy, _⟩ := cxIx_some (mis_no h hz hs)
   rw [e]
   exact (List.getElem?_eq_some_iff.1 hy).1
theorem nodup_le {l : List Nat} {n : Nat} (h : l.Nodup) (hb : ∀ x ∈ l, x < n) : l.length ≤ n := by
 have := h.length_le_of_subset (l₂ := List.range n) (fun x hx => List.mem_range.2 (hb x hx))
 rwa [List.length_range] at this
theorem nodup_snoc {l : List Nat} {k : Nat} (h : l.Nodup) (hk : k ∉ l) : (l ++ [k]).Nodup := by
 rw [List.nodup_append]
 exact ⟨h, by simp, fun a ha b hb => by rw [List.mem_singleton.1 hb]; exact fun e => hk (e ▸ ha)⟩
structure AfInv (S : Nat → List Nat) (n i0 : Nat) (out pend : List Nat) : Prop where
 nd : out.Nodup
 outP : ∀ x ∈ out, Path S i0 x
 pendP : ∀ x ∈ pend, Path S i0 x
 first : ∀ j ∈ S i0, j ∈ out ∨ j ∈ pend
 step : ∀ x ∈ out, ∀ j ∈ S x, j ∈ out ∨ j ∈ pend
theorem AfInv.new (S : Nat → List Nat) (n i0 : Nat) : AfInv S n i0 [] (S i0) :=
 ⟨List.nodup_nil, (fun x h => by cases h), (fun x h => .one h), (fun j h => .inr h), (fun x h => by cases h)⟩
theorem AfInv.skip {S : Nat → List Nat} {n i0 k : Nat} {out rest : List Nat} (h : AfInv S n i0 out (k :: rest)) (hk : k ∈ out) : AfInv S n i0 out rest :=
 ⟨h.nd, h.outP, fun x hx => h.pendP x (List.mem_cons_of_mem _ hx), fun j hj => (h.first j hj).elim .inl fun e => (List.mem_cons.1 e).elim (fun e => .inl (e ▸ hk)) .inr,
   fun x hx j hj => (h.step x hx j hj).elim .inl fun e => (List.mem_cons.1 e).elim (fun e => .inl (e ▸ hk)) .inr⟩
theorem AfInv.take {S : Nat → List Nat} {n i0 k : Nat} {out rest : List Nat} (h : AfInv S n i0 out (k :: rest)) (hk : k ∉ out) : AfInv S n i0 (out ++ [k]) (rest ++ S k) := by
 have hp := h.pendP k (by simp)
 refine ⟨nodup_snoc h.nd hk, fun x hx => ?_, fun x hx => ?_, fun j hj => ?_, fun x hx j hj => ?_⟩
 · rcases List.mem_append.1 hx with e | e
   · exact h.outP x e
   · rw [List.mem_singleton.1 e]; exact hp
 · rcases List.mem_append.1 hx with e | e
   · exact h.pendP x (List.mem_cons_of_mem _ e)
   · exact hp.snoc e
 · rcases h.first j hj with e | e
   · exact .inl (List.mem_append.2 (.inl e))
   · rcases List.mem_cons.1 e with e | e
     · exact .inl (List.mem_append.2 (.inr (by simp [e])))
     · exact .inr (List.mem_append.2 (.inl e))
 · rcases List.mem_append.1 hx with e | e
   · rcases h.step x e j hj with e | e
     · exact .inl (List.mem_append.2 (.inl e))
     · rcases List.mem_cons.1 e with e | e
       · exact .inl (List.mem_append.2 (.inr (by simp [e])))
       · exact .inr (List.mem_append.2 (.inl e))
   · rw [List.mem_singleton.1 e] at hj
     exact .inr (List.mem_append.2 (.inr hj))
theorem AfInv.end_ {S : Nat → List Nat} {n i0 : Nat} {out : List Nat} (h : AfInv S n i0 out []) (x : Nat) : x ∈ out ↔ Path S i0 x := by
 refine ⟨h.outP x, fun hp => ?_⟩
 have hin : ∀ {a b : Nat}, Path S a b → (∀ j ∈ S a, j ∈ out) → b ∈ out := by
   intro a b hp
   induction hp with
   | one e => exact fun q => q _ e
   | more e _ ih => exact fun q => ih fun j hj => (h.step _ (q _ e) j hj).elim id fun e => by cases e
 exact hin hp fun j hj => (h.first j hj).elim id fun e => by cases e
theorem AfInv.bd {S : Nat → List Nat} {n i0 : Nat} {out pend : List Nat} (h : AfInv S n i0 out pend) (hS : ∀ i j, j ∈ S i → j < n) : out.length ≤ n := nodup_le h.nd fun x hx => (h.outP x hx).bd hS
inductive Ord (S : Nat → List Nat) : List Nat → List Nat → List Nat → Prop
 | nil {out : List Nat} : Ord S [] out out
 | skip {k : Nat} {rest out r : List Nat} : k ∈ out → Ord S rest out r → Ord S (k :: rest) out r
 | take {k : Nat} {rest out r : List Nat} : k ∉ out → Ord S (S k ++ rest) (out ++ [k]) r → Ord S (k :: rest) out r
theorem Ord.det {S : Nat → List Nat} {t out r r' : List Nat} (h : Ord S t out r) (k : Ord S t out r') : r = r' := by
 induction h with
 | nil => cases k; rfl
 | skip e _ ih =>
   cases k with
   | skip _ k => exact ih k
   | take e' _ => exact absurd e e'
 | take e _ ih =>
   cases k with
   | skip e' _ => exact absurd e' e
   | take _ k => exact ih k
theorem Ord.app {S : Nat → List Nat} {a b out m r : List Nat} (h : Ord S a out m) (k : Ord S b m r) : Ord S (a ++ b) out r := by
 induction h with
 | nil => exact k
 | skip e _ ih => exact .skip e (ih k)
 | take e _ ih => exact .take e (by have h := ih k; rw [List.append_assoc] at h; exact h)
theorem Ord.len {S : Nat → List Nat} {t out r : List Nat} (h : Ord S t out r) : out.length ≤ r.length := by
 induction h with
 | nil => exact Nat.le_refl _
 | skip _ _ ih => exact ih
 | take _ _ ih => rw [List.length_append] at ih; simp at ih; omega
theorem Ord.one {S : Nat → List Nat} {i : Nat} {out r : List Nat} (hi : i ∉ out) (h : Ord S (S i) (out ++ [i]) r) : Ord S [i] out r := .take hi (by rw [List.append_nil]; exact h)
end
end Go.Proofs.YteppdabhloieaaaGreatDoor
namespace Go.Proofs.YteppdabhloieaaaGreatDoor
section
open Go.RowKit
theorem flat_set1' {α : Type} {row : α → List Value} {k : Nat} (hrow : ∀ a, (row a).length = k) {l : List α} {i : Nat} {a a' : α} (hi : l[i]? = some a) {j : Nat} (hj : j < k) {u : Value} (hr : row a' = (row a).set j u) : (l.flatMap row).set (i * k + j) u = (l.set i a').flatMap row := by
 have h := flat_set (row := row) (k := k) hrow (by omega) hi (a' := a') (ys := [u]) j (by simp; omega) (by
   rw [hr, List.set_eq_take_append_cons_drop, if_pos (by rw [hrow]; exact hj)]; simp)
 have hil := (List.getElem?_eq_some_iff.1 hi).1
 have hle : (i + 1) * k ≤ l.length * k := Nat.mul_le_mul_right k hil
 rw [Nat.succ_mul] at hle
 rw [← h, List.set_eq_take_append_cons_drop, if_pos (by rw [flat_len hrow]; omega)]
 simp
theorem reads_at (w : World) (t : TypeId) (cs : List Value) (size : Nat) (h : cs.length = size) {g : Nat} (hg : w.heap.size = g) : Reads (w.alloc (.cells cs.toArray t)) g size (some ⟨g, 0, none⟩) 1 1 cs := by
 subst hg; exact Reads.one w t cs size h
def OwnR {α : Type} (row : α → List Value) (k : Nat) (w : World) (lo : Nat) (e : TypeId) (A : Option Addr) (n c : Nat) (l : List α) : Prop := Own w lo e k A n c (l.flatMap row) ∧ l.length = n
section
variable {α : Type} {row : α → List Value} {k : Nat} {w w' : World} {lo lo' n c : Nat} {e : TypeId} {A : Option Addr} {l : List α}
theorem OwnR.recs (h : OwnR row k w lo e A n c l) : Recs row k w lo A n c l := ⟨h.1.reads, h.2⟩
theorem OwnR.nil (w : World) (lo : Nat) (e : TypeId) : OwnR row k w lo e none 0 0 [] := ⟨Own.nil _ _ _ _, rfl⟩
theorem OwnR.kept (h : OwnR row k w lo e A n c l) {r : Option Nat} (hg : w.grownBy w' r) (hne : ∀ g, r = some g → blkOf A ≠ some g) : OwnR row k w' lo e A n c l := ⟨h.1.kept hg hne, h.2⟩
theorem OwnR.low (h : OwnR row k w lo e A n c l) {r : Option Nat} (hg : w.grownBy w' r) (hr : ∀ g, r = some g → g < lo) : OwnR row k w' lo e A n c l :=
 h.kept hg (fun g e e' => by have := hr g e; have := (h.1.lt e').1; omega)
theorem OwnR.lower (h : OwnR row k w lo e A n c l) (hl : lo' ≤ lo) : OwnR row k w lo' e A n c l := ⟨h.1.lower hl, h.2⟩
theorem OwnR.alloc (h : OwnR row k w lo e A n c l) (o : Obj) : OwnR row k (w.alloc o) lo e A n c l := ⟨h.1.alloc o, h.2⟩
theorem OwnR.app {a : α} (h : OwnR row k w lo e A n c l) {A1 : Option Addr} {c1 n1 : Nat} (hn : n1 = n + 1) (h1 : Appended w lo e k A A1 n1 c1 (l.flatMap row ++ row a) w') : OwnR row k w' lo e A1 n1 c1 (l ++ [a]) := by
 subst hn
 refine ⟨?_, by simp [h.2]⟩
 rw [List.flatMap_append]
 simpa using h1.1
theorem OwnR.set1 {g i j p : Nat} {a a' : α} {u : Value} (hrow : ∀ a, (row a).length = k) (h : OwnR row k w lo e (some ⟨g, 0, none⟩) n c l) (hi : l[i]? = some a) (hj : j < k) (hr : row a' = (row a).set j u) (hp : p = i * k + j) : OwnR row k (w.setCell ⟨g, p, none⟩ u) lo e (some ⟨g, 0, none⟩) n c (l.set i a') := by
 subst hp
 refine ⟨?_, by simp [h.2]⟩
 rw [← flat_set1' hrow hi hj hr]
 exact h.1.stored _ u
end
end
end Go.Proofs.YteppdabhloieaaaGreatDoor
namespace Go.Proofs.YteppdabhloieaaaGreatDoor
section
open Go.RowKit
def nrow (n : Int) : List Value := [.int .i64 n]
theorem nrow_len (n : Int) : (nrow n).length = 1 := rfl
theorem Tryz.inT : ElemT Tryz.prog 22 3 1 8 (.int .i64 0) := elemT_of Tryz.underlying22 (by kernel_rfl) rfl (by decide)
end
end Go.Proofs.YteppdabhloieaaaGreatDoor
namespace Go.Proofs.YteppdabhloieaaaGreatDoor
section
open Go.RowKit
def HrBd (a : HrV) : Prop := a.key.size ≤ 1000 ∧ a.rn ≤ 1000 ∧ a.hn ≤ 1000
def HrOwn (w : World) (lo : Nat) (a : HrV) : Prop := HrBd a ∧ OwnR r3Row 3 w lo 148 a.rA a.rn a.rc a.rows ∧ OwnR r3Row 3 w lo 150 a.hA a.hn a.hc a.hol
def HrApart (a b : HrV) : Prop := (∀ g, blkOf a.rA = some g → blkOf b.rA ≠ some g) ∧ (∀ g, blkOf a.hA = some g → blkOf b.hA ≠ some g)
def GHrs (w : World) (lo : Nat) (A : Option Addr) (n c : Nat) (l : List HrV) : Prop :=
 OwnR HrV.row 4 w lo 146 A n c l ∧ (∀ a ∈ l, HrOwn w lo a) ∧ ∀ (i j : Nat) (a b : HrV), i ≠ j → l[i]? = some a → l[j]? = some b → HrApart a b
theorem mem_setH {α : Type} {l : List α} {i : Nat} {a x : α} (h : x ∈ l.set i a) : x = a ∨ ∃ j, j ≠ i ∧ l[j]? = some x := by
 obtain ⟨j, hj⟩ := List.mem_iff_getElem?.1 h
 rw [List.getElem?_set] at hj
 split at hj
 · split at hj
   · injection hj with hj; exact .inl hj.symm
   · cases hj
 · rename_i hne
   exact .inr ⟨j, fun e => hne e.symm, hj⟩
section
variable {w w' : World} {lo n c : Nat} {A : Option Addr} {l : List HrV}
theorem HrOwn.ok {a : HrV} (h : HrOwn w lo a) : HrOk w lo a := ⟨h.1, h.2.1.recs, h.2.2.recs⟩
theorem GHrs.hrs (h : GHrs w lo A n c l) : Hrs w lo A n c l := ⟨h.1.recs, fun a ha => (h.2.1 a ha).ok⟩
theorem GHrs.nil (w : World) (lo : Nat) : GHrs w lo none 0 0 [] := ⟨OwnR.nil _ _ _, (fun a ha => by cases ha), fun i j a b _ h => by simp at h⟩
theorem HrOwn.kept {a : HrV} (h : HrOwn w lo a) {r : Option Nat} (hg : w.grownBy w' r) (h1 : ∀ g, r = some g → blkOf a.rA ≠ some g) (h2 : ∀ g, r = some g → blkOf a.hA ≠ some g) : HrOwn w' lo a := ⟨h.1, h.2.1.kept hg h1, h.2.2.kept hg h2⟩
theorem HrOwn.low {a : HrV} (h : HrOwn w lo a) {r : Option Nat} (hg : w.grownBy w' r) (hr : ∀ g, r = some g → g < lo) : HrOwn w' lo a := ⟨h.1, h.2.1.low hg hr, h.2.2.low hg hr⟩
theorem HrOwn.lower {a : HrV} {lo' : Nat} (h : HrOwn w lo a) (hl : lo' ≤ lo) : HrOwn w lo' a := ⟨h.1, h.2.1.lower hl, h.2.2.lower hl⟩
theorem GHrs.low (h : GHrs w lo A n c l) {r : Option Nat} (hg : w.grownBy w' r) (hr : ∀ g, r = some g → g < lo) : GHrs w' lo A n c l := ⟨h.1.low hg hr, fun a ha => (h.2.1 a ha).low hg hr, h.2.2⟩
theorem HrOwn.other {a : HrV} (h : HrOwn w lo a) {lo' n' c' k' : Nat} {A' : Option Addr} {xs : List Value} (ho : Own w lo' 146 k' A' n' c' xs) (hg : w.grownBy w' (blkOf A')) : HrOwn w' lo a :=
 h.kept hg (fun g e => Own.ne ho h.2.1.1 (by decide) e) (fun g e => Own.ne ho h.2.2.1 (by decide) e)
theorem GHrs.app {a : HrV} {hi : Nat} (h : GHrs w lo A n c l) (ha : HrOwn w hi a) (hlo : lo ≤ hi) (hb : ∀ b ∈ l, (∀ g, blkOf b.rA = some g → g < hi) ∧ (∀ g, blkOf b.hA = some g → g < hi)) {A1 : Option Addr} {c1 n1 : Nat} (hn : n1 = n + 1)
   (h1 : Appended w lo 146 4 A A1 n1 c1 (l.flatMap HrV.row ++ a.row) w') : GHrs w' lo A1 n1 c1 (l ++ [a]) := by
 have ap : ∀ b ∈ l, HrApart a b ∧ HrApart b a := fun b hb1 => by
   obtain ⟨q1, q2⟩ := hb b hb1
   exact ⟨⟨fun g e e' => by have := q1 g e'; have := (ha.2.1.1.lt e).1; omega, fun g e e' => by have := q2 g e'; have := (ha.2.2.1.lt e).1; omega⟩,
     ⟨fun g e e' => by have := q1 g e; have := (ha.2.1.1.lt e').1; omega, fun g e e' => by have := q2 g e; have := (ha.2.2.1.lt e').1; omega⟩⟩
 refine ⟨h.1.app hn h1, fun b hb1 => ?_, fun i j x y hne hx hy => ?_⟩
 · rcases List.mem_append.1 hb1 with hb1 | hb1
   · exact (h.2.1 b hb1).other h.1.1 h1.2.1
   · rw [List.mem_singleton.1 hb1]; exact (ha.lower hlo).other h.1.1 h1.2.1
 · rw [List.getElem?_append] at hx hy
   split at hx <;> split at hy
   · exact h.2.2 i j x y hne hx hy
   · rename_i q1 q2
     have : y = a := by
       cases hj : j - l.length with
       | zero => rw [hj] at hy; simpa using hy.symm
       | succ q => rw [hj] at hy; simp at hy
     subst this
     exact (ap x (mem_of_get hx)).2
   · rename_i q1 q2
     have : x = a := by
       cases hj : i - l.length with
       | zero => rw [hj] at hx; simpa using hx.symm
       | succ q => rw [hj] at hx; simp at hx
     subst this
     exact (ap y (mem_of_get hy)).1
   · exfalso
     rename_i q1 q2
     have h3 : i - l.length = 0 := by
       cases hj : i - l.length with
       | zero => rfl
       | succ q => rw [hj] at hx; simp at hx
     have h4 : j - l.length = 0 := by
       cases hj : j - l.length with
       | zero => rfl
       | succ q => rw [hj] at hy; simp at hy
     omega
theorem GHrs.set1 {g i j p : Nat} {a a' : HrV} {u : Value} (h : GHrs w lo (some ⟨g, 0, none⟩) n c l) (hi : l[i]? = some a) (hj : j < 4) (hr : a'.row = a.row.set j u) (hb : HrBd a') (hs : a'.rA = a.rA ∧ a'.rn = a.rn ∧ a'.rc = a.rc ∧ a'.rows = a.rows ∧ a'.hA = a.hA ∧ a'.hn = a.hn ∧ a'.hc = a.hc ∧ a'.hol = a.hol) (hp : p = i * 4 + j) :
   GHrs (w.setCell ⟨g, p, none⟩ u) lo (some ⟨g, 0, none⟩) n c (l.set i a') := by
 have hg : w.grownBy (w.setCell ⟨g, p, none⟩ u) (blkOf (some ⟨g, 0, none⟩)) := gr_setCell (gr_refl _ _) (.inl rfl) _
 obtain ⟨s1, s2, s3, s4, s5, s6, s7, s8⟩ := hs
 refine ⟨h.1.set1 HrV.row_len hi hj hr hp, fun x hx => ?_, fun i1 j1 x y hne hx hy => ?_⟩
 · rcases mem_setH hx with rfl | ⟨q, _, hx⟩
   · have h1 := (h.2.1 a (mem_of_get hi)).other h.1.1 hg
     refine ⟨hb, ?_, ?_⟩
     · rw [s1, s2, s3, s4]; exact h1.2.1
     · rw [s5, s6, s7, s8]; exact h1.2.2
   · exact (h.2.1 x (mem_of_get hx)).other h.1.1 hg
 · have e1 : ∀ (q : Nat) (x : HrV), (l.set i a')[q]? = some x → ∃ z : HrV, l[q]? = some z ∧ x.rA = z.rA ∧ x.hA = z.hA := fun q x hx => by
     rw [List.getElem?_set] at hx
     split at hx
     · split at hx
       · rename_i e _
         injection hx with hx
         subst hx; subst e
         exact ⟨a, hi, s1, s5⟩
       · cases hx
     · exact ⟨x, hx, rfl, rfl⟩
   obtain ⟨z1, q1, q2, q3⟩ := e1 _ _ hx
   obtain ⟨z2, q4, q5, q6⟩ := e1 _ _ hy
   have := h.2.2 _ _ _ _ hne q1 q4
   unfold HrApart
   rw [q2, q3, q5, q6]
   exact this
theorem GHrs.rows {g i p : Nat} {a : HrV} {w1 : World} (h : GHrs w lo (some ⟨g, 0, none⟩) n c l) (hi : l[i]? = some a) {s : Int × Int × Int} {A1 : Option Addr} {c1 n1 : Nat} (hn : n1 = a.rn + 1) (hb : n1 ≤ 1000)
   (h1 : Appended w lo 148 3 a.rA A1 n1 c1 (a.rows.flatMap r3Row ++ r3Row s) w1) (hp : p = i * 4 + 2) :
   Hrs (w1.setCell ⟨g, p, none⟩ (.slice A1 n1 c1)) lo (some ⟨g, 0, none⟩) n c (l.set i { a with rA := A1, rn := n1, rc := c1, rows := a.rows ++ [s] }) := by
 have ho := h.2.1 a (mem_of_get hi)
 have hm : OwnR HrV.row 4 w1 lo 146 (some ⟨g, 0, none⟩) n c l := h.1.kept h1.2.1 (fun g' e => Own.ne ho.2.1.1 h.1.1 (by decide) e)
 have hg : w1.grownBy (w1.setCell ⟨g, p, none⟩ (.slice A1 n1 c1)) (blkOf (some ⟨g, 0, none⟩)) := gr_setCell (gr_refl _ _) (.inl rfl) _
 refine ⟨(hm.set1 (a' := { a with rA := A1, rn := n1, rc := c1, rows := a.rows ++ [s] }) HrV.row_len hi (j := 2) (by omega) rfl hp).recs, fun x hx => ?_⟩
 rcases mem_setH hx with rfl | ⟨q, hq, hx⟩
 · refine HrOwn.ok (HrOwn.other (w := w1) ⟨⟨ho.1.1, hb, ho.1.2.2⟩, ho.2.1.app hn h1, ?_⟩ hm.1 hg)
   exact ho.2.2.kept h1.2.1 (fun g' e => Own.ne ho.2.1.1 ho.2.2.1 (by decide) e)
 · have hx1 := h.2.1 x (mem_of_get hx)
   have hap := h.2.2 _ _ _ _ (fun e => hq e.symm) hi hx
   exact HrOwn.ok (HrOwn.other (hx1.kept h1.2.1 (fun g' e => hap.1 g' e) (fun g' e => Own.ne ho.2.1.1 hx1.2.2.1 (by decide) e)) hm.1 hg)
theorem GHrs.hols {g i p : Nat} {a : HrV} {w1 : World} (h : GHrs w lo (some ⟨g, 0, none⟩) n c l) (hi : l[i]? = some a) {s : Int × Int × Int} {A1 : Option Addr} {c1 n1 : Nat} (hn : n1 = a.hn + 1) (hb : n1 ≤ 1000)
   (h1 : Appended w lo 150 3 a.hA A1 n1 c1 (a.hol.flatMap r3Row ++ r3Row s) w1) (hp : p = i * 4 + 3) :
   Hrs (w1.setCell ⟨g, p, none⟩ (.slice A1 n1 c1)) lo (some ⟨g, 0, none⟩) n c (l.set i { a with hA := A1, hn := n1, hc := c1, hol := a.hol ++ [s] }) := by
 have ho := h.2.1 a (mem_of_get hi)
 have hm : OwnR HrV.row 4 w1 lo 146 (some ⟨g, 0, none⟩) n c l := h.1.kept h1.2.1 (fun g' e => Own.ne ho.2.2.1 h.1.1 (by decide) e)
 have hg : w1.grownBy (w1.setCell ⟨g, p, none⟩ (.slice A1 n1 c1)) (blkOf (some ⟨g, 0, none⟩)) := gr_setCell (gr_refl _ _) (.inl rfl) _
 refine ⟨(hm.set1 (a' := { a with hA := A1, hn := n1, hc := c1, hol := a.hol ++ [s] }) HrV.row_len hi (j := 3) (by omega) rfl hp).recs, fun x hx => ?_⟩
 rcases mem_setH hx with rfl | ⟨q, hq, hx⟩
 · refine HrOwn.ok (HrOwn.other (w := w1) ⟨⟨ho.1.1, ho.1.2.1, hb⟩, ?_, ho.2.2.app hn h1⟩ hm.1 hg)
   exact ho.2.1.kept h1.2.1 (fun g' e => Own.ne ho.2.2.1 ho.2.1.1 (by decide) e)
 · have hx1 := h.2.1 x (mem_of_get hx)
   have hap := h.2.2 _ _ _ _ (fun e => hq e.symm) hi hx
   exact HrOwn.ok (HrOwn.other (hx1.kept h1.2.1 (fun g' e => Own.ne ho.2.2.1 hx1.2.1.1 (by decide) e) (fun g' e => hap.2 g' e)) hm.1 hg)
end
def IsHrs (lo most : Nat) (v : Value) (w : World) : Prop := ∃ (A : Option Addr) (c : Nat) (l : List HrV), v = .slice A most c ∧ Hrs w lo A most c l
def IsGHrs (lo most : Nat) (v : Value) (w : World) : Prop := ∃ (A : Option Addr) (c : Nat) (l : List HrV), v = .slice A most c ∧ GHrs w lo A most c l ∧ ∀ a ∈ l, a.rn ≤ 2 ∧ a.hn ≤ 3
def HrB (w : World) (sb ab : Nat) (m : Int) (a : HrV) (wr : World) : Prop :=
 Str wr sb m ∧ w.grownBy wr (some sb) ∧ w.heap.size ≤ ab ∧ Blk wr ab 146 #[.string a.key, .int .i64 a.zone, .slice a.rA a.rn a.rc, .slice a.hA a.hn a.hc] ∧ HrOwn wr w.heap.size a
section
variable {w wr wx w8 : World} {sb ab : Nat} {m m' : Int} {a : HrV}
theorem HrB.row1 (h : HrB w sb ab m a wr) (hsb : sb < w.heap.size) {s : Int × Int × Int} {n1 : Nat} (hn : n1 = a.rn + 1) (hb : n1 ≤ 1000) (hsx : Str wx sb m') (hgx : wr.grownBy wx (some sb)) {A1 : Option Addr} {c1 : Nat}
   (h8 : Appended wx w.heap.size 148 3 a.rA A1 n1 c1 (a.rows.flatMap r3Row ++ r3Row s) w8) :
   HrB w sb ab m' { a with rA := A1, rn := n1, rc := c1, rows := a.rows ++ [s] } (w8.setCell ⟨ab, 2, none⟩ (.slice A1 n1 c1)) := by
 obtain ⟨_, hg, hp, hbk, ho⟩ := h
 have hox : HrOwn wx w.heap.size a := ho.low hgx (fun g e => by injection e with e; omega)
 have hbx := hbk.grown hgx (by simp; omega)
 have hb8 := hbx.grown h8.2.1 (Ne.symm (hox.2.1.1.blk_ne hbx (by decide)))
 have hg8 : w.grownBy w8 (some sb) := gr_own (gr_same hg hgx) hox.2.1.1 (Nat.le_refl _) h8.2.1
 have hz := hg8.size
 have hs8 : Str w8 sb m' := hsx.grown h8.2.1 (fun g e => by have := (hox.2.1.1.lt e).1; omega)
 refine ⟨hs8.setCell (by simp; omega) _, gr_setCell hg8 (.inr (by simp; omega)) _, hp, hb8.set_ 2 _, ⟨hox.1.1, hb, hox.1.2.2⟩, ?_, ?_⟩
 · have h9 := hox.2.1.app hn h8
   exact ⟨h9.1.far (h9.1.blk_ne hb8 (by decide)) _, h9.2⟩
 · have h9 := hox.2.2.kept h8.2.1 (fun g' e => Own.ne hox.2.1.1 hox.2.2.1 (by decide) e)
   exact ⟨h9.1.far (h9.1.blk_ne hb8 (by decide)) _, h9.2⟩
theorem HrB.hol1 (h : HrB w sb ab m a wr) (hsb : sb < w.heap.size) {s : Int × Int × Int} {n1 : Nat} (hn : n1 = a.hn + 1) (hb : n1 ≤ 1000) (hsx : Str wx sb m') (hgx : wr.grownBy wx (some sb)) {A1 : Option Addr} {c1 : Nat}
   (h8 : Appended wx w.heap.size 150 3 a.hA A1 n1 c1 (a.hol.flatMap r3Row ++ r3Row s) w8) :
   HrB w sb ab m' { a with hA := A1, hn := n1, hc := c1, hol := a.hol ++ [s] } (w8.setCell ⟨ab, 3, none⟩ (.slice A1 n1 c1)) := by
 obtain ⟨_, hg, hp, hbk, ho⟩ := h
 have hox : HrOwn wx w.heap.size a := ho.low hgx (fun g e => by injection e with e; omega)
 have hbx := hbk.grown hgx (by simp; omega)
 have hb8 := hbx.grown h8.2.1 (Ne.symm (hox.2.2.1.blk_ne hbx (by decide)))
 have hg8 : w.grownBy w8 (some sb) := gr_own (gr_same hg hgx) hox.2.2.1 (Nat.le_refl _) h8.2.1
 have hz := hg8.size
 have hs8 : Str w8 sb m' := hsx.grown h8.2.1 (fun g e => by have := (hox.2.2.1.lt e).1; omega)
 refine ⟨hs8.setCell (by simp; omega) _, gr_setCell hg8 (.inr (by simp; omega)) _, hp, hb8.set_ 3 _, ⟨hox.1.1, hox.1.2.1, hb⟩, ?_, ?_⟩
 · have h9 := hox.2.1.kept h8.2.1 (fun g' e => Own.ne hox.2.2.1 hox.2.1.1 (by decide) e)
   exact ⟨h9.1.far (h9.1.blk_ne hb8 (by decide)) _, h9.2⟩
 · have h9 := hox.2.2.app hn h8
   exact ⟨h9.1.far (h9.1.blk_ne hb8 (by decide)) _, h9.2⟩
theorem HrB.step (h : HrB w sb ab m a wr) (hsb : sb < w.heap.size) (hsx : Str wx sb m') (hgx : wr.grownBy wx (some sb)) : HrB w sb ab m' a wx :=
 ⟨hsx, gr_same h.2.1 hgx, h.2.2.1, h.2.2.2.1.grown hgx (by have := h.2.2.1; simp; omega), h.2.2.2.2.low hgx (fun g e => by injection e with e; omega)⟩
end
theorem HrB.blk {w wr wx w8 : World} {sb ab : Nat} {m : Int} {a : HrV} (_h : HrB w sb ab m a wr) {e t : TypeId} {A A1 : Option Addr} {n c n1 c1 g j : Nat} {xs ys : List Value} {cs : Array Value} {v : Value} (hb : Blk wr g t cs) (hgx : wr.grownBy wx (some sb)) (hs : g ≠ sb) (hg : g ≠ ab)
   (ho : Own wx w.heap.size e 3 A n c xs) (hne : e ≠ t) (h8 : Appended wx w.heap.size e 3 A A1 n1 c1 ys w8) : Blk (w8.setCell ⟨ab, j, none⟩ v) g t cs := by
 have hbx := hb.grown hgx (by simpa using hs)
 exact (hbx.grown h8.2.1 (Ne.symm (ho.blk_ne hbx hne))).far (by simpa using hg) v
theorem Tryz.hrsT : ElemT Tryz.prog 27 146 4 72 (.agg #[.string ⟨#[]⟩, .int .i64 0, .slice none 0 0, .slice none 0 0]) := elemT_of Tryz.underlying27 (by kernel_rfl) rfl (by decide)
theorem Tryz.rwsT : ElemT Tryz.prog 143 148 3 24 (.agg #[.int .i64 0, .int .i64 0, .int .i64 0]) := elemT_of Tryz.underlying143 (by kernel_rfl) rfl (by decide)
theorem Tryz.hosT : ElemT Tryz.prog 144 150 3 24 (.agg #[.int .i64 0, .int .i64 0, .int .i64 0]) := elemT_of Tryz.underlying144 (by kernel_rfl) rfl (by decide)
end
end Go.Proofs.YteppdabhloieaaaGreatDoor
namespace Go.Proofs.YteppdabhloieaaaGreatDoor
section
open Go.RowKit
def begS (x : List Nat × Nat) (d : List Nat) : Bool := (List.range d.length).all (fun i => hasM (takesL x i).1 (d.getD i 0)) && ((takesL x d.length).1 != 0 || (takesL x d.length).2)
theorem begS_bad {x : List Nat × Nat} {d : List Nat} {i : Nat} (hi : i < d.length) (h : hasM (takesL x i).1 (d.getD i 0) = false) : begS x d = false := by
 unfold begS
 rw [show (List.range d.length).all (fun i => hasM (takesL x i).1 (d.getD i 0)) = false from by
   rw [List.all_eq_false]; exact ⟨i, List.mem_range.2 hi, by rw [h]; decide⟩]
 rfl
theorem begS_good {x : List Nat × Nat} {d : List Nat} {M : Nat} {E Z : Bool} (h : ∀ i, i < d.length → hasM (takesL x i).1 (d.getD i 0) = true) (ht : takesL x d.length = (M, E)) (hZ : ((M : Int) != 0) = Z) : begS x d = (Z || E) := by
 unfold begS
 rw [show (List.range d.length).all (fun i => hasM (takesL x i).1 (d.getD i 0)) = true from List.all_eq_true.2 fun i hi => h i (List.mem_range.1 hi), ht, ← hZ]
 by_cases h0 : M = 0
 · subst h0; rfl
 · have h1 : (M != 0) = true := by simpa using h0
   have h2 : ((M : Int) != 0) = true := by rw [bne_iff_ne]; omega
   simp only [h1, h2, Bool.true_and]
def longB (x : List Nat × Nat) (d : List Nat) : Bool := begS x d && decide (d.length < 30) && (x.2 != 0 || decide (d.length < x.1.length))
def fitsL (x : List Nat × Nat) (d : List Nat) : Nat → Bool
 | 0 => true
 | i + 1 => fitsL x d i && decide (d.getD i 0 ∈ setAtL x i)
theorem fitsL_all {x : List Nat × Nat} {d : List Nat} {n : Nat} : fitsL x d n = true ↔ ∀ i, i < n → d.getD i 0 ∈ setAtL x i := by
 induction n with
 | zero => simp [fitsL]
 | succ n ih =>
   unfold fitsL
   rw [Bool.and_eq_true, ih, decide_eq_true_iff]
   constructor
   · rintro ⟨h1, h2⟩ i hi
     rcases Nat.lt_succ_iff_lt_or_eq.1 hi with h3 | h3
     · exact h1 i h3
     · subst h3; exact h2
   · intro h; exact ⟨fun i hi => h i (by omega), h n (by omega)⟩
theorem onlyM_nz (c : Nat) : onlyM c ≠ 0 := by unfold onlyM; have := pow_pos' (sgIx c); omega
theorem elemL_nz {l : List Nat} {M n : Nat} (h : elemL l = some (M, n)) : M ≠ 0 := by
 unfold elemL at h
 split at h
 · injection h with h; injection h with h _; rw [← h]; decide
 · split at h
   · injection h with h; injection h with h _; rw [← h]; decide
   · split at h
     · injection h with h; injection h with h _; rw [← h]; decide
     · split at h
       · split at h
         · rw [Option.map_eq_some_iff] at h
           obtain ⟨K, hK, h⟩ := h
           injection h with h _
           obtain ⟨_, hg, _⟩ := setM_some hK
           rw [← h]
           rintro rfl
           exact absurd hg (by decide)
         · cases h
       · split at h
         · injection h with h; injection h with h _; rw [← h]; exact onlyM_nz _
         · cases h
theorem shpF_nz {f : Nat} {l S : List Nat} {x : List Nat × Nat} (hS : ∀ M ∈ S, M ≠ 0) (h : shpF f l S = some x) : ∀ M ∈ x.1, M ≠ 0 := by
 induction f generalizing l S with
 | zero => cases h
 | succ f ih =>
   unfold shpF at h
   split at h
   · injection h with h; subst h; exact hS
   · split at h
     · injection h with h; subst h; exact hS
     · split at h
       · cases h
       · rename_i M n he
         refine ih (fun M' hM => ?_) h
         rcases List.mem_append.1 hM with h3 | h3
         · exact hS M' h3
         · rw [List.mem_singleton.1 h3]; exact elemL_nz he
theorem patX_nz {l : List Nat} {x : List Nat × Nat} (h : patX l = some x) : ∀ M ∈ x.1, M ≠ 0 := by
 unfold patX at h
 split at h
 · unfold shpL at h
   split at h
   · cases h
   · rename_i y e
     split at h
     · injection h with h; subst h; exact shpF_nz (by simp) e
     · cases h
 · cases h
theorem patX_many {l : List Nat} {x : List Nat × Nat} (h : patX l = some x) : 1 ≤ many x ∧ many x ≤ 30 := by
 unfold patX at h
 split at h
 · unfold shpL at h
   split at h
   · cases h
   · split at h
     · rename_i hm; injection h with h; subst h; exact hm
     · cases h
 · cases h
theorem longB_doc {x : List Nat × Nat} {d : List Nat} (hr : Right x) (hz : ∀ M ∈ x.1, M ≠ 0) (hs : ∀ b ∈ d, b ∈ sgn) : longB x d = (fitsL x d d.length && decide (d.length < 30) && (decide (d.length < x.1.length) || x.2 != 0)) := by
 unfold longB
 by_cases h0 : (x.2 != 0 || decide (d.length < x.1.length)) = true
 · have h0' : (decide (d.length < x.1.length) || x.2 != 0) = true := by rw [Bool.or_comm]; exact h0
   rw [h0, h0', Bool.and_true, Bool.and_true]
   congr 1
   have hov : ∀ i, i ≤ d.length → over x i = false := by
     intro i hi
     unfold over
     rw [Bool.and_eq_false_iff]
     rw [Bool.or_eq_true] at h0
     rcases h0 with h1 | h1
     · right; simpa using h1
     · left; have := of_decide_eq_true h1; exact decide_eq_false (by omega)
   have ht : ∀ i, i ≤ d.length → (takesL x i).1 = mAt x i := fun i hi => by rw [takes_fst hr, hov i hi]; rfl
   have hmem : ∀ i, i < d.length → d.getD i 0 ∈ sgn := fun i hi => hs _ (by rw [List.getD_eq_getElem?_getD, List.getElem?_eq_getElem hi]; exact List.getElem_mem _)
   have hnz : ((takesL x d.length).1 != 0) = true := by
     rw [ht _ (Nat.le_refl _)]
     unfold mAt
     split
     · rename_i hk
       have := hz (x.1.getD d.length 0) (by rw [List.getD_eq_getElem?_getD, List.getElem?_eq_getElem hk]; exact List.getElem_mem _)
       simpa using this
     · rfl
   unfold begS
   rw [hnz, Bool.true_or, Bool.and_true]
   rw [Bool.eq_iff_iff, fitsL_all, List.all_eq_true]
   constructor
   · intro h i hi
     have h1 := h i (List.mem_range.2 hi)
     rw [ht i (by omega), ← mem_setAt (hmem i hi)] at h1
     exact of_decide_eq_true h1
   · intro h i hi
     have hi' := List.mem_range.1 hi
     rw [ht i (by omega), ← mem_setAt (hmem i hi')]
     exact decide_eq_true (h i hi')
 · rw [Bool.not_eq_true] at h0
   have h0' : (decide (d.length < x.1.length) || x.2 != 0) = false := by rw [Bool.or_comm]; exact h0
   rw [h0, h0', Bool.and_false, Bool.and_false]
set_option maxRecDepth 100000 in
set_option maxHeartbeats 4000000 in
theorem beginsS_any (A : Option Addr) (n c : Nat) (x : List Nat × Nat) (s : ByteArray) (w : World) (h : Ints .u16 w 0 A n c (u16L x.1)) (hr : Right x) (hn : n ≤ 30) (hs : s.size ≤ 30) (hd : ∀ b ∈ nb s, b ∈ sgn) :
   Calls Tryz.prog 105 #[.agg #[.slice A n c, .int .u8 x.2], .string s] w (RetV (.tuple #[.bool (begS x (nb s)), .bool (matchL x (nb s))]) w) := by
 have H := Lib.hid h; have HR := Lib.hid hr; have HD := Lib.hid hd
 have HB := Lib.hid (Blk.new w 86 #[.slice A n c, .int .u8 x.2])
 clear h hr hd
 go_enter Tryz.func105, Tryz.ntmps105
 go_wp2_with fail
 have HG0 := Lib.hid (gr_alloc (gr_refl w none) (.cells #[.slice A n c, .int .u8 x.2] 86))
 generalize w.alloc (.cells #[.slice A n c, .int .u8 x.2] 86) = wb at *
 go_loopw [6, 7, 8, 12] (fun _ _ _ t wr => ∃ i : Nat, i ≤ s.size ∧ t = .int .i64 i ∧ (∀ j, j < i → hasM (takesL x j).1 ((nb s).getD j 0) = true) ∧ wb.grownBy wr none) (fun _ _ _ t _ => s.size - (intOf t).toNat)
 case atStart => exact ⟨0, Nat.zero_le _, rfl, fun j hj => by omega, gr_refl _ _⟩
 case round =>
   obtain ⟨i, hi, rfl, hin, hg⟩ := hrel
   have HIN := Lib.hid hin; have HG := Lib.hid hg
   clear hin hg
   by_cases hil : i < s.size
   · obtain ⟨b, hb⟩ : ∃ b, s[i].toNat = b := ⟨_, rfl⟩
     have hgb : (nb s).getD i 0 = b := by rw [← nb_get hil, hb]
     have hmem : b ∈ sgn := HD.out b (by rw [← hgb, List.getD_eq_getElem?_getD, List.getElem?_eq_getElem (by rw [nb_len]; exact hil)]; exact List.getElem_mem _)
     have HMEM := Lib.hid hmem
     have HGB := Lib.hid hgb
     obtain ⟨M, E, hT⟩ : ∃ M E, takesL x i = (M, E) := ⟨_, _, rfl⟩
     have HTK := Lib.hid hT
     have hM : M < 4096 := by
       have := congrArg Prod.fst hT
       dsimp only at this
       rw [← this, takes_fst HR.out]
       split
       · omega
       · exact mAt_bd HR.out i
     have hz := and_has hM hmem
     clear hmem hgb hT
     cases hh : hasM M b
     · have hz1 : (bits .and .u16 (M : Int) (onlyM b : Nat) == 0) = true := by rw [hz.1, hh]; rfl
       have HW := Lib.hid (show begS x (nb s) = false from begS_bad (i := i) (by rw [nb_len]; exact hil) (by rw [HGB.out, HTK.out]; exact hh))
       have HV := Lib.hid (show matchL x (nb s) = false from match_bad HR.out (i := i) (by rw [nb_len]; exact hil) (by rw [HGB.out]; exact HMEM.out) (by rw [HGB.out, HTK.out]; exact hh))
       clear hz hh
       go_wp2_with (first
         | (refine wpl_load_all Tryz.patT rfl _ rfl _ rfl _ _ (HB.out.grown HG.out (by simp)) rfl ?_)
         | (go_at_call 116
            refine (takes_any A n c i x _ ((H.out.grown HG0.out gn_).grown HG.out gn_) (by omega) (by omega)).mono ?_
            rintro e w3 ⟨rfl, hg3⟩
            rw [HTK.out]
            have HG3 := Lib.hid hg3
            clear hg3)
         | (go_at_call 152; refine (only_any b _ HMEM.out).mono ?_; rintro e w' ⟨rfl, rfl⟩)
         | fail)
       go_ret2
       exact ⟨by rw [HV.out, HW.out]; rfl, gr_none HG0.out (gr_none HG.out HG3.out)⟩
     · have hz1 : (bits .and .u16 (M : Int) (onlyM b : Nat) == 0) = false := by rw [hz.1, hh]; rfl
       have HHH := Lib.hid hh
       clear hz hh
       go_wp2_with (first
         | (refine wpl_load_all Tryz.patT rfl _ rfl _ rfl _ _ (HB.out.grown HG.out (by simp)) rfl ?_)
         | (go_at_call 116
            refine (takes_any A n c i x _ ((H.out.grown HG0.out gn_).grown HG.out gn_) (by omega) (by omega)).mono ?_
            rintro e w3 ⟨rfl, hg3⟩
            rw [HTK.out]
            have HG3 := Lib.hid hg3
            clear hg3)
         | (go_at_call 152; refine (only_any b _ HMEM.out).mono ?_; rintro e w' ⟨rfl, rfl⟩)
         | fail)
       go_roundw
       case rel => exact ⟨i + 1, by omega, by go_num, fun j hj => by
         rcases Nat.lt_succ_iff_lt_or_eq.1 hj with h1 | h1
         · exact HIN.out j h1
         · subst h1; rw [HGB.out, HTK.out]; exact HHH.out, gr_none HG.out HG3.out⟩
       case measure => simp [intOf]; omega
   · obtain rfl : i = s.size := by omega
     obtain ⟨M, E, hT⟩ : ∃ M E, takesL x s.size = (M, E) := ⟨_, _, rfl⟩
     have HTK := Lib.hid hT
     have HV := Lib.hid (show matchL x (nb s) = E by
       rw [match_good HR.out HD.out (fun j hj => HIN.out j (by rw [nb_len] at hj; exact hj)), nb_len, hT])
     have d0 : decide ((s.size : Int) < (s.size : Int)) = false := decide_eq_false (by omega)
     obtain ⟨Z, hZ⟩ : ∃ Z, ((M : Int) != 0) = Z := ⟨_, rfl⟩
     have HW := Lib.hid (show begS x (nb s) = (Z || E) from begS_good (fun j hj => HIN.out j (by rw [nb_len] at hj; exact hj)) (by rw [nb_len]; exact hT) hZ)
     clear hT
     cases Z
     all_goals
       go_wp2_with (first
         | (refine wpl_load_all Tryz.patT rfl _ rfl _ rfl _ _ (HB.out.grown HG.out (by simp)) rfl ?_)
         | (go_at_call 116
            refine (takes_any A n c s.size x _ ((H.out.grown HG0.out gn_).grown HG.out gn_) (by omega) (by omega)).mono ?_
            rintro e w3 ⟨rfl, hg3⟩
            rw [HTK.out]
            have HG3 := Lib.hid hg3
            clear hg3)
         | fail)
       go_ret2
       exact ⟨by rw [HV.out, HW.out]; rfl, gr_none HG0.out (gr_none HG.out HG3.out)⟩
end
end Go.Proofs.YteppdabhloieaaaGreatDoor
namespace Go.Proofs.YteppdabhloieaaaGreatDoor
section
open Go.RowKit
theorem bv64u (a : Nat) (ha : a < 18446744073709551616) : (BitVec.ofInt 64 (a : Int)).toNat = a := by
 rw [BitVec.ofInt_natCast, BitVec.toNat_ofNat]; exact Nat.mod_eq_of_lt ha
theorem u64_and (a b : Nat) (ha : a < 18446744073709551616) (hb : b < 18446744073709551616) : bits .and .u64 (a : Int) (b : Int) = ((a &&& b : Nat) : Int) := by
 have hx : a &&& b < 2 ^ 64 := Nat.and_lt_two_pow _ (by omega)
 show IntKind.u64.wrap ((BitVec.ofInt 64 (a : Int) &&& BitVec.ofInt 64 (b : Int)).toNat : Int) = _
 rw [BitVec.toNat_and, bv64u a ha, bv64u b hb, IntKind.wrap_u64]
 omega
theorem bit_u64 (s k : Nat) (hs : s < 18446744073709551616) : bits .and .u64 ((s : Int) / 2 ^ k) 1 = if s.testBit k then 1 else 0 := by
 have e : (s : Int) / 2 ^ k = ((s / 2 ^ k : Nat) : Int) := by rw [Int.natCast_ediv, Int.natCast_pow]; rfl
 have hle : s / 2 ^ k ≤ s := Nat.div_le_self _ _
 have h := u64_and (s / 2 ^ k) 1 (by omega) (by omega)
 rw [Nat.and_one_is_mod] at h
 have h4 : ((1 : Nat) : Int) = 1 := rfl
 rw [h4] at h
 rw [e, h, Nat.testBit_eq_decide_div_mod_eq]
 by_cases hc : s / 2 ^ k % 2 = 1
 · simp [hc]
 · have : s / 2 ^ k % 2 = 0 := by omega
   simp [this]
theorem u64_clr (s k : Nat) (hs : s < 18446744073709551616) (hk : k < 64) : bits .andNot .u64 (s : Int) ((2 ^ k : Nat) : Int) = ((clr s k : Nat) : Int) := by
 have hp : 2 ^ k < 18446744073709551616 := Nat.pow_lt_pow_right (by omega) hk
 have hx : ((BitVec.ofInt 64 (s : Int)) &&& ~~~(BitVec.ofInt 64 ((2 ^ k : Nat) : Int))).toNat = clr s k := by
   refine Nat.eq_of_testBit_eq fun j => ?_
   rw [clr_bit, BitVec.testBit_toNat, BitVec.getLsbD_and, BitVec.getLsbD_not, ← BitVec.testBit_toNat, ← BitVec.testBit_toNat, bv64u s hs, bv64u _ hp, Nat.testBit_two_pow]
   by_cases hj : j < 64
   · by_cases h : k = j
     · subst h; simp
     · have h2 : j ≠ k := fun e => h e.symm
       simp [hj, h, h2]
   · have : s.testBit j = false := testBit_big (n := 64) (by omega) (by omega)
     rw [this]; simp
 have hlt : clr s k < 18446744073709551616 := by rw [← hx]; exact BitVec.isLt _
 show IntKind.u64.wrap ((((BitVec.ofInt 64 (s : Int)) &&& ~~~(BitVec.ofInt 64 ((2 ^ k : Nat) : Int))).toNat : Nat) : Int) = _
 rw [hx, IntKind.wrap_u64]
 omega
structure Pats (w : World) (lo : Nat) (A : Option Addr) (n c : Nat) (ps : List PatV) : Prop where
 recs : Recs patRow 2 w lo A n c ps
 ok : ∀ p ∈ ps, PatOk w p
theorem Pats.grown {w w' : World} {lo : Nat} {A : Option Addr} {n c : Nat} {ps : List PatV} (h : Pats w lo A n c ps) (hg : w.grownBy w' none) : Pats w' lo A n c ps :=
 ⟨h.recs.grown hg gn_, fun p hp => ⟨(h.ok p hp).1.grown hg gn_, (h.ok p hp).2⟩⟩
def shps (ps : List PatV) : List (List Nat × Nat) := ps.map (·.x)
theorem shps_getD {ps : List PatV} {k : Nat} {p : PatV} (h : ps[k]? = some p) : (shps ps).getD k ([], 0) = p.x := by
 unfold shps; rw [List.getD_eq_getElem?_getD, List.getElem?_map, h]; rfl
theorem shps_len (ps : List PatV) : (shps ps).length = ps.length := by unfold shps; rw [List.length_map]
theorem endTo_no {l : List (List Nat × Nat)} {s a k : Nat} {y : List Nat × Nat} (h : l.getD k ([], 0) = y) (h0 : endTo l s a k = false) (h1 : (s.testBit k && (takesL y a).2) = false) : endTo l s a (k + 1) = false := by
 unfold endTo; rw [h, h0, h1]; rfl
theorem endTo_yes {l : List (List Nat × Nat)} {s a k : Nat} {y : List Nat × Nat} (h : l.getD k ([], 0) = y) (h1 : (s.testBit k && (takesL y a).2) = true) : endTo l s a (k + 1) = true := by
 unfold endTo; rw [h, h1, Bool.or_true]
set_option maxRecDepth 100000 in
set_option maxHeartbeats 4000000 in
theorem ends_any (lo : Nat) (A : Option Addr) (n c : Nat) (ps : List PatV) (s a : Nat) (w : World) (h : Pats w lo A n c ps) (hn : n ≤ 60) (hs : s < 18446744073709551616) (ha : a ≤ 100) :
   Calls Tryz.prog 117 #[.slice A n c, .int .u64 s, .int .i64 a] w (RetV (.bool (endB (shps ps) s a)) w) := by
 have H := Lib.hid h
 have HLN := Lib.hid (show (shps ps).length = n by rw [shps_len, h.recs.len])
 clear h
 go_enter Tryz.func117, Tryz.ntmps117
 go_wp2_with fail
 go_loopw [7, 8, 9, 10, 13] (fun _ _ _ _ t wr => ∃ k : Nat, k ≤ n ∧ t = .int .i64 k ∧ w.grownBy wr none ∧ endTo (shps ps) s a k = false) (fun _ _ _ _ t _ => n - (intOf t).toNat)
 case atStart => exact ⟨0, Nat.zero_le _, rfl, gr_refl _ _, rfl⟩
 case round =>
   obtain ⟨k, hk, rfl, hg, hend⟩ := hrel
   have HG := Lib.hid hg; have HE := Lib.hid hend
   clear hg hend
   by_cases hlt : k < n
   · obtain ⟨g, o, p, rfl, _, hgl, hz, hc⟩ := (H.out.grown HG.out).recs.get patRow_len hlt
     have HOK := Lib.hid ((H.out.ok p (mem_of_get hz)))
     have HGD := Lib.hid (shps_getD hz)
     have HC := Lib.hid hc
     have hbt := bit_u64 s k hs
     obtain ⟨M, E, hT⟩ : ∃ M E, takesL p.x a = (M, E) := ⟨_, _, rfl⟩
     have HT := Lib.hid hT
     clear hz hc hT
     obtain ⟨wa, hwa⟩ : ∃ wa, wr.alloc (.cells #[.slice p.A p.n p.c, .int .u8 p.x.2] 86) = wa := ⟨_, rfl⟩
     have HB := Lib.hid (show Blk wa wr.heap.size 86 #[.slice p.A p.n p.c, .int .u8 p.x.2] by rw [← hwa]; exact Blk.new _ _ _)
     have hga : wr.grownBy wa none := by rw [← hwa]; exact gr_alloc (gr_refl _ _) _
     have HGA := Lib.hid (gr_none HG.out hga)
     have HWA := Lib.hid hwa
     clear hwa hga
     go_upto_region 4 with (first
       | (refine wpl_load_at Tryz.patT rfl _ rfl _ rfl [.slice p.A p.n p.c, .int .u8 p.x.2] rfl (fun j u hu => by rw [add_mk]; exact HC.out j u hu) ?_)
       | fail)
     rw [HWA.out]
     go_wp2_with (first
       | (refine wpl_load_all Tryz.patT rfl _ rfl _ rfl _ _ HB.out rfl ?_)
       | fail)
     refine (takes_any p.A p.n p.c a p.x _ (HOK.out.1.grown HGA.out gn_) (by have := HOK.out.2.1; omega) ha).mono ?_
     rintro e w3 ⟨rfl, hg3⟩
     rw [HT.out]
     have HG3 := Lib.hid (gr_none HGA.out hg3)
     clear hg3
     cases hb : s.testBit k
     · rw [hb, if_neg (by simp)] at hbt
       have HN := Lib.hid (endTo_no HGD.out HE.out (by rw [hb]; rfl))
       clear hb
       cases E
       all_goals
         go_wp2_with fail
         go_roundw
         case rel => exact ⟨k + 1, by omega, by go_num, HG3.out, HN.out⟩
         case measure => simp [intOf]; omega
     · rw [hb, if_pos rfl] at hbt
       cases E
       · have HN := Lib.hid (endTo_no HGD.out HE.out (by rw [hb, HT.out]; rfl))
         clear hb
         go_wp2_with fail
         go_roundw
         case rel => exact ⟨k + 1, by omega, by go_num, HG3.out, HN.out⟩
         case measure => simp [intOf]; omega
       · have HN := Lib.hid (show endB (shps ps) s a = true from endTo_mono (endTo_yes HGD.out (by rw [hb, HT.out]; rfl)) _ (by rw [HLN.out]; omega))
         clear hb
         go_wp2_with fail
         go_ret
         exact ⟨by rw [HN.out]; rfl, HG3.out⟩
   · obtain rfl : k = n := by omega
     have HN := Lib.hid (show endB (shps ps) s a = false by unfold endB; rw [HLN.out]; exact HE.out)
     go_wp2_with fail
     go_ret
     exact ⟨by rw [HN.out]; rfl, HG.out⟩
end
end Go.Proofs.YteppdabhloieaaaGreatDoor
namespace Go.Proofs.YteppdabhloieaaaGreatDoor
section
open Go.RowKit
structure ShV where
 A : Option Addr
 n : Nat
 c : Nat
 x : List Nat × Nat
def shRow (p : ShV) : List Value := [.slice p.A p.n p.c, .int .u8 p.x.2]
theorem shRow_len (p : ShV) : (shRow p).length = 2 := rfl
structure ShOk (w : World) (lo : Nat) (p : ShV) : Prop where
 st : Strs w lo p.A p.n p.c p.x.1
 n : p.n ≤ 30
 rt : Right p.x
structure Shps (w : World) (lo lo' : Nat) (A : Option Addr) (n c : Nat) (ps : List ShV) : Prop where
 recs : Recs shRow 2 w lo A n c ps
 ok : ∀ p ∈ ps, ShOk w lo' p
theorem ShOk.grown {w w' : World} {lo : Nat} {p : ShV} {r : Option Nat} (h : ShOk w lo p) (hg : w.grownBy w' r) (hr : ∀ g, r = some g → g < lo) : ShOk w' lo p := ⟨h.st.grown hg hr, h.n, h.rt⟩
theorem Shps.grown {w w' : World} {lo lo' : Nat} {A : Option Addr} {n c : Nat} {ps : List ShV} {r : Option Nat} (h : Shps w lo lo' A n c ps) (hg : w.grownBy w' r) (hr : ∀ g, r = some g → g < lo) (hr' : ∀ g, r = some g → g < lo') : Shps w' lo lo' A n c ps :=
 ⟨h.recs.grown hg hr, fun p hp => (h.ok p hp).grown hg hr'⟩
def shsX (ps : List ShV) : List (List Nat × Nat) := ps.map (·.x)
theorem shsX_getD {ps : List ShV} {k : Nat} {p : ShV} (h : ps[k]? = some p) : (shsX ps).getD k ([], 0) = p.x := by
 unfold shsX; rw [List.getD_eq_getElem?_getD, List.getElem?_map, h]; rfl
theorem shsX_len (ps : List ShV) : (shsX ps).length = ps.length := by unfold shsX; rw [List.length_map]
theorem Tryz.shT2 : StructT Tryz.prog 109 2 := ⟨_, Tryz.underlying109, rfl, by kernel_rfl⟩
set_option maxRecDepth 100000 in
set_option maxHeartbeats 8000000 in
theorem ended_any (lo lo' : Nat) (A : Option Addr) (n c : Nat) (ps : List ShV) (s a : Nat) (w : World) (h : Shps w lo lo' A n c ps) (hn : n ≤ 60) (hs : s < 9223372036854775808) (ha : a ≤ 100) :
   Calls Tryz.prog 131 #[.slice A n c, .int .i64 s, .int .i64 a] w (RetV (.bool (endB (shsX ps) s a)) w) := by
 have H := Lib.hid h
 have HLN := Lib.hid (show (shsX ps).length = n by rw [shsX_len, h.recs.len])
 clear h
 go_enter Tryz.func131, Tryz.ntmps131
 go_wp2_with fail
 go_loopw [7, 8, 9, 12] (fun _ _ _ t wr => ∃ k : Nat, k ≤ n ∧ t = .int .i64 k ∧ w.grownBy wr none ∧ endTo (shsX ps) s a k = false) (fun _ _ _ t _ => n - (intOf t).toNat)
 case atStart => exact ⟨0, Nat.zero_le _, rfl, gr_refl _ _, rfl⟩
 case round =>
   obtain ⟨k, hk, rfl, hg, hend⟩ := hrel
   have HG := Lib.hid hg; have HE := Lib.hid hend
   clear hg hend
   by_cases hlt : k < n
   · obtain ⟨g, o, p, rfl, _, hgl, hz, hc⟩ := (H.out.grown HG.out gn_ gn_).recs.get shRow_len hlt
     have hok := H.out.ok p (mem_of_get hz)
     have hpn := hok.n
     have hpl := hok.st.len
     have HTS := Lib.hid (takes_snd hok.rt a)
     have htl := hok.rt.1
     have HGD := Lib.hid (shsX_getD hz)
     have hbt := bit_test s k hs
     obtain ⟨pA, pn, pc, S, t⟩ := p
     dsimp only at hpn hpl htl HTS HGD
     have HC := Lib.hid hc
     have HPL := Lib.hid hpl
     clear hz hc hok hpl
     obtain ⟨wa, hwa⟩ : ∃ wa, wr.alloc (.cells #[.slice pA pn pc, .int .u8 t] 109) = wa := ⟨_, rfl⟩
     obtain ⟨pb, hpb⟩ : ∃ pb, wr.heap.size = pb := ⟨_, rfl⟩
     have HB := Lib.hid (show Blk wa pb 109 #[.slice pA pn pc, .int .u8 t] by rw [← hwa, ← hpb]; exact Blk.new _ _ _)
     have hga : wr.grownBy wa none := by rw [← hwa]; exact gr_alloc (gr_refl _ _) _
     have HGA := Lib.hid (gr_none HG.out hga)
     have HWA := Lib.hid hwa; have HPB := Lib.hid hpb
     clear hwa hga hpb
     go_upto_region 4 with (first
       | (refine wpl_load_at Tryz.shT2 rfl _ rfl _ rfl [.slice pA pn pc, .int .u8 t] rfl (fun j u hu => by rw [add_mk]; exact HC.out j u hu) ?_)
       | fail)
     rw [HWA.out, HPB.out]
     clear HWA HPB
     have k0 := HB.out.cell 0
     have k1 := HB.out.cell 1
     obtain ⟨mr, hmr⟩ : ∃ mr : Int, (a : Int) - (pn : Int) = mr := ⟨_, rfl⟩
     have hm1 : -100 ≤ mr := by omega
     have hm2 : mr ≤ 100 := by omega
     cases hb : s.testBit k
     · rw [hb, if_neg (by simp)] at hbt
       have HN := Lib.hid (endTo_no HGD.out HE.out (by rw [hb]; rfl))
       clear hb
       go_wp2_with fail
       go_roundw
       case rel => exact ⟨k + 1, by omega, by go_num, HGA.out, HN.out⟩
       case measure => simp [intOf]; omega
     · rw [hb, if_pos rfl] at hbt
       have hcase : mr = 0 ∨ 0 < mr ∨ mr < 0 := by omega
       rcases hcase with h0 | h0 | h0
       · have e1 : (mr == 0) = true := by rw [beq_iff_eq]; exact h0
         have e2 : decide (0 < mr) = false := decide_eq_false (by omega)
         have hal : a = S.length := by have := HPL.out; omega
         rcases htl with rfl | rfl | rfl
         · have HV : (takesL (S, 0) a).2 = true := by rw [HTS.out, if_pos hal, decide_eq_true (by rw [hal]; exact Nat.le_refl _)]; rfl
           have HN := Lib.hid (show endB (shsX ps) s a = true from endTo_mono (endTo_yes HGD.out (by rw [hb, HV]; rfl)) _ (by rw [HLN.out]; omega))
           clear hb HV
           go_wp2_with fail
           go_ret
           exact ⟨by rw [HN.out]; rfl, HGA.out⟩
         · have HV : (takesL (S, 46) a).2 = false := by rw [HTS.out, if_pos hal]; simp
           have HN := Lib.hid (endTo_no HGD.out HE.out (by rw [hb, HV]; rfl))
           clear hb HV
           go_wp2_with fail
           go_roundw
           case rel => exact ⟨k + 1, by omega, by go_num, HGA.out, HN.out⟩
           case measure => simp [intOf]; omega
         · have HV : (takesL (S, 33) a).2 = true := by rw [HTS.out, if_pos hal, decide_eq_true (by rw [hal]; exact Nat.le_refl _)]; rfl
           have HN := Lib.hid (show endB (shsX ps) s a = true from endTo_mono (endTo_yes HGD.out (by rw [hb, HV]; rfl)) _ (by rw [HLN.out]; omega))
           clear hb HV
           go_wp2_with fail
           go_ret
           exact ⟨by rw [HN.out]; rfl, HGA.out⟩
       · have e1 : (mr == 0) = false := by rw [beq_eq_false_iff_ne]; omega
         have e2 : decide (0 < mr) = true := decide_eq_true h0
         have hal : ¬ a = S.length := by have := HPL.out; omega
         have hle : decide (S.length ≤ a) = true := decide_eq_true (by have := HPL.out; omega)
         rcases htl with rfl | rfl | rfl
         · have HV : (takesL (S, 0) a).2 = false := by rw [HTS.out, if_neg hal, hle]; rfl
           have HN := Lib.hid (endTo_no HGD.out HE.out (by rw [hb, HV]; rfl))
           clear hb HV
           go_wp2_with fail
           go_roundw
           case rel => exact ⟨k + 1, by omega, by go_num, HGA.out, HN.out⟩
           case measure => simp [intOf]; omega
         · have HV : (takesL (S, 46) a).2 = true := by rw [HTS.out, if_neg hal, hle]; rfl
           have HN := Lib.hid (show endB (shsX ps) s a = true from endTo_mono (endTo_yes HGD.out (by rw [hb, HV]; rfl)) _ (by rw [HLN.out]; omega))
           clear hb HV
           go_wp2_with fail
           go_ret
           exact ⟨by rw [HN.out]; rfl, HGA.out⟩
         · have HV : (takesL (S, 33) a).2 = true := by rw [HTS.out, if_neg hal, hle]; rfl
           have HN := Lib.hid (show endB (shsX ps) s a = true from endTo_mono (endTo_yes HGD.out (by rw [hb, HV]; rfl)) _ (by rw [HLN.out]; omega))
           clear hb HV
           go_wp2_with fail
           go_ret
           exact ⟨by rw [HN.out]; rfl, HGA.out⟩
       · have e1 : (mr == 0) = false := by rw [beq_eq_false_iff_ne]; omega
         have e2 : decide (0 < mr) = false := decide_eq_false (by omega)
         have HV : (takesL (S, t) a).2 = false := by rw [HTS.out, decide_eq_false (by have := HPL.out; omega)]; rfl
         have HN := Lib.hid (endTo_no HGD.out HE.out (by rw [hb, HV]; rfl))
         clear hb HV
         go_wp2_with fail
         go_roundw
         case rel => exact ⟨k + 1, by omega, by go_num, HGA.out, HN.out⟩
         case measure => simp [intOf]; omega
   · obtain rfl : k = n := by omega
     have HN := Lib.hid (show endB (shsX ps) s a = false by unfold endB; rw [HLN.out]; exact HE.out)
     go_wp2_with fail
     go_ret
     exact ⟨by rw [HN.out]; rfl, HG.out⟩
end
end Go.Proofs.YteppdabhloieaaaGreatDoor

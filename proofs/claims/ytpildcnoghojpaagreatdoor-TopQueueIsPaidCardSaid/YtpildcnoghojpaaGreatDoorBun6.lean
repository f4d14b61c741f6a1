/- Strings of digits, prefixes and numbers: number.IsNumber, account.isPrefix and the document's PhoneNumber. Conditions: none. -/
import Derived.Test.YtpildcnoghojpaaGreatDoorBun4
import Derived.Test.YtpildcnoghojpaaGreatDoorShelfCut
import Derived.Deep.QuietTactic
import Derived.BigQuiet
import Derived.Test.YtpildcnoghojpaaGreatDoorBun1
import Derived.WalkKit
import Derived.Test.YtpildcnoghojpaaGreatDoorBun3
import Derived.Test.YtpildcnoghojpaaGreatDoorQue4
namespace Go.Proofs.YtpildcnoghojpaaGreatDoor
section
open Go.RowKit

/-- What CutPrefix gives at a plus. -/
theorem plus_cut (s : ByteArray) : ∃ (d : ByteArray) (b : Bool), (⟨(Lib.trimPrefix s.data.toList [43]).toArray⟩ : ByteArray) = d ∧ Lib.hasPrefix s.data.toList [43] = b ∧ d.size ≤ s.size ∧ ((b = false ∧ plusOf (nb s) = none) ∨ (b = true ∧ plusOf (nb s) = some (nb d))) := by
  refine ⟨_, _, rfl, rfl, ?_, ?_⟩
  · show (Lib.trimPrefix s.data.toList [43]).toArray.size ≤ s.data.size
    rw [List.size_toArray, ← Array.length_toList]
    unfold Lib.trimPrefix
    split
    · rw [List.length_drop]; omega
    · exact Nat.le_refl _
  · unfold nb
    cases h : s.data.toList with
    | nil => left; simp [plusOf, Lib.hasPrefix]
    | cons a l =>
      by_cases e : a = 43
      · subst e
        right
        simp [plusOf, Lib.hasPrefix, Lib.trimPrefix]
      · left
        have e2 : a.toNat ≠ 43 := fun h2 => e (UInt8.toNat_inj.1 h2)
        have e3 : ((43 : UInt8) == a) = false := by rw [beq_eq_false_iff_ne]; exact fun h => e h.symm
        refine ⟨by simp [Lib.hasPrefix, List.isPrefixOf, e3], ?_⟩
        rw [List.map_cons]
        unfold plusOf
        split
        · rename_i h3
          injection h3 with h4
          exact absurd h4 e2
        · rfl
theorem cutPlus_any (s d : ByteArray) (b : Bool) (w : World) (hd : (⟨(Lib.trimPrefix s.data.toList [43]).toArray⟩ : ByteArray) = d) (hb : Lib.hasPrefix s.data.toList [43] = b) :
    Calls Tryz.prog 110 #[.string s, .string ⟨#[43]⟩] w (Same (.tuple #[.string d, .bool b]) w) := by
  refine (Tryz.strings_CutPrefix s ⟨#[43]⟩ w).mono ?_
  rintro e w' ⟨rfl, rfl⟩
  refine ⟨?_, rfl⟩
  show Ending.returned (.tuple #[.string ⟨(Lib.trimPrefix s.data.toList [43]).toArray⟩, .bool (Lib.hasPrefix s.data.toList [43])]) = _
  rw [hd, hb]
set_option maxRecDepth 100000 in
theorem trimDig_any (s : ByteArray) (w : World) (hs : s.size ≤ 1000000) : Calls Tryz.prog 84 #[.string s, .string ⟨#[48, 49, 50, 51, 52, 53, 54, 55, 56, 57]⟩] w
    (RetV (.string ⟨(Lib.trimS s.data.toList [48, 49, 50, 51, 52, 53, 54, 55, 56, 57]).toArray⟩) w) := by
  refine (Any.strings_Trim_laid Tryz.lays160 (by kernel_rfl) s ⟨#[48, 49, 50, 51, 52, 53, 54, 55, 56, 57]⟩ w (by omega) (by decide) (ascii_of_all (by decide))).mono ?_
  rintro e w' ⟨rfl, hb⟩
  exact ⟨rfl, gr_below hb none⟩
theorem trimDig_eq (s : ByteArray) : ∃ u : ByteArray, (⟨(Lib.trimS s.data.toList [48, 49, 50, 51, 52, 53, 54, 55, 56, 57]).toArray⟩ : ByteArray) = u ∧ ((digB (nb s) = true ∧ u.toList = []) ∨ (digB (nb s) = false ∧ (u.toList == []) = false ∧ u.toList.isEmpty = false)) := by
  refine ⟨_, rfl, ?_⟩
  rw [ByteArray.toList_mk]
  cases hd : digB (nb s)
  · right
    have : ¬ Lib.trimS s.data.toList [48, 49, 50, 51, 52, 53, 54, 55, 56, 57] = [] := fun h => by
      rw [tr_only] at h
      have : digB (nb s) = true := h
      rw [hd] at this; cases this
    exact ⟨rfl, by rw [beq_eq_false_iff_ne]; exact this, by rw [List.isEmpty_eq_false_iff]; exact this⟩
  · exact .inl ⟨rfl, (tr_only s _).2 hd⟩
set_option maxHeartbeats 2000000 in
theorem isDigits_any (s : ByteArray) (w : World) (hs : s.size ≤ 1000000) : Calls Tryz.prog 125 #[.string s] w (RetV (.bool (digB (nb s))) w) := by
  obtain ⟨u, hu, h⟩ := trimDig_eq s
  have HU := Lib.hid hu; clear hu
  rcases h with ⟨h1, h2⟩ | ⟨h1, h2, h3⟩
  all_goals
    have HB := Lib.hid h1; clear h1
    go_enter Tryz.func125, Tryz.ntmps125
    go_wp2_with (first
      | (go_at_call 84; refine (trimDig_any s _ hs).mono ?_; rintro e w' ⟨rfl, hg⟩; rw [HU.out]; have HG := Lib.hid hg; clear hg)
      | fail)
    go_ret
    exact ⟨by rw [HB.out]; rfl, HG.out⟩
/-- From lo to hi digits, and nothing else. -/
def digN (l : List Nat) (lo hi : Int) : Bool := decide (lo ≤ l.length) && decide ((l.length : Int) ≤ hi) && digB l
set_option maxHeartbeats 2000000 in
theorem digitsOf_any (s : ByteArray) (lo hi : Int) (w : World) (hs : s.size ≤ 1000000) : Calls Tryz.prog 111 #[.string s, .int .i64 lo, .int .i64 hi] w (RetV (.bool (digN (nb s) lo hi)) w) := by
  have HV := Lib.hid (show digN (nb s) lo hi = (decide (lo ≤ s.size) && decide ((s.size : Int) ≤ hi) && digB (nb s)) by unfold digN; rw [nb_len])
  obtain ⟨B, hB⟩ : ∃ B, digB (nb s) = B := ⟨_, rfl⟩
  have HB := Lib.hid hB; clear hB
  by_cases h1 : lo ≤ (s.size : Int) <;> by_cases h2 : (s.size : Int) ≤ hi
  · have d1 : decide (lo ≤ (s.size : Int)) = true := decide_eq_true h1
    have d2 : decide ((s.size : Int) ≤ hi) = true := decide_eq_true h2
    replace HV := Lib.hid (show digN (nb s) lo hi = digB (nb s) by rw [HV.out, d1, d2]; rfl)
    go_enter Tryz.func111, Tryz.ntmps111
    go_wp2_with (first
      | (go_at_call 125; refine (isDigits_any s _ hs).mono ?_; rintro e w' ⟨rfl, hg⟩; have HG := Lib.hid hg; clear hg)
      | fail)
    go_ret
    exact ⟨by rw [HV.out]; rfl, HG.out⟩
  · have d1 : decide (lo ≤ (s.size : Int)) = true := decide_eq_true h1
    have d2 : decide ((s.size : Int) ≤ hi) = false := decide_eq_false h2
    replace HV := Lib.hid (show digN (nb s) lo hi = false by rw [HV.out, d1, d2]; rfl)
    go_enter Tryz.func111, Tryz.ntmps111
    go_wp2_with fail
    go_ret
    exact ⟨by rw [HV.out]; rfl, gr_refl _ _⟩
  all_goals
    have d1 : decide (lo ≤ (s.size : Int)) = false := decide_eq_false h1
    replace HV := Lib.hid (show digN (nb s) lo hi = false by rw [HV.out, d1]; rfl)
    go_enter Tryz.func111, Tryz.ntmps111
    go_wp2_with fail
    go_ret
    exact ⟨by rw [HV.out]; rfl, gr_refl _ _⟩
theorem phOk_none {l : List Nat} (h : plusOf l = none) : phOk l = false := by unfold phOk; rw [h]; rfl
theorem phOk_some {l d : List Nat} (h : plusOf l = some d) : phOk l = (digN d 4 15 && decide (d.getD 0 0 ≠ 48)) := by
  unfold phOk digN
  rw [h]
  show (decide (4 ≤ d.length) && decide (d.length ≤ 15) && digB d && decide (d.getD 0 0 ≠ 48)) = _
  congr 3
  all_goals
    rw [Bool.eq_iff_iff]
    simp only [Bool.and_eq_true, decide_eq_true_eq]
    omega
set_option maxHeartbeats 2000000 in
theorem isNumber_any (s : ByteArray) (w : World) (hs : s.size ≤ 1000000) : Calls Tryz.prog 89 #[.string s] w (RetV (.bool (phOk (nb s))) w) := by
  obtain ⟨d, b, hd, hb, hsz, h⟩ := plus_cut s
  have HD := Lib.hid hd; have HB := Lib.hid hb; clear hd hb
  rcases h with ⟨rfl, h⟩ | ⟨rfl, h⟩
  · have HV := Lib.hid (phOk_none h); clear h
    go_enter Tryz.func89, Tryz.ntmps89
    go_wp2_with (first
      | (go_at_call 110; refine (cutPlus_any s d false _ HD.out HB.out).mono ?_; rintro e w' ⟨rfl, rfl⟩)
      | fail)
    go_ret
    exact ⟨by rw [HV.out]; rfl, gr_refl _ _⟩
  · have hV := phOk_some h
    obtain ⟨B, hB⟩ : ∃ B, digN (nb d) 4 15 = B := ⟨_, rfl⟩
    rw [hB] at hV
    have HN := Lib.hid hB
    have HV := Lib.hid hV; clear h hV
    cases B
    · clear hB
      go_enter Tryz.func89, Tryz.ntmps89
      go_wp2_with (first
        | (go_at_call 110; refine (cutPlus_any s d true _ HD.out HB.out).mono ?_; rintro e w' ⟨rfl, rfl⟩)
        | (go_at_call 111; refine (digitsOf_any d 4 15 _ (by omega)).mono ?_; rintro e w' ⟨rfl, hg⟩; rw [HN.out]; have HG := Lib.hid hg; clear hg)
        | fail)
      go_ret
      exact ⟨by rw [HV.out]; rfl, HG.out⟩
    · have h4 : 4 ≤ d.size := by
        unfold digN at hB
        rw [nb_len] at hB
        simp only [Bool.and_eq_true, decide_eq_true_eq] at hB
        omega
      clear hB
      obtain ⟨q, hq⟩ : ∃ q, d[0].toNat = q := ⟨_, rfl⟩
      have HQ := Lib.hid (show (nb d).getD 0 0 = q by rw [← nb_get (by omega), hq])
      by_cases h48 : q = 48
      · have e1 : ((q : Int) != 48) = false := by rw [h48]; rfl
        have HF := Lib.hid (show phOk (nb s) = false by rw [HV.out, HQ.out, h48]; rfl)
        clear h48
        go_enter Tryz.func89, Tryz.ntmps89
        go_wp2_with (first
          | (go_at_call 110; refine (cutPlus_any s d true _ HD.out HB.out).mono ?_; rintro e w' ⟨rfl, rfl⟩)
          | (go_at_call 111; refine (digitsOf_any d 4 15 _ (by omega)).mono ?_; rintro e w' ⟨rfl, hg⟩; rw [HN.out]; have HG := Lib.hid hg; clear hg)
          | fail)
        go_ret
        exact ⟨by rw [HF.out]; rfl, HG.out⟩
      · have e1 : ((q : Int) != 48) = true := by rw [bne_iff_ne]; omega
        have HF := Lib.hid (show phOk (nb s) = true by rw [HV.out, HQ.out, decide_eq_true h48]; rfl)
        clear h48
        go_enter Tryz.func89, Tryz.ntmps89
        go_wp2_with (first
          | (go_at_call 110; refine (cutPlus_any s d true _ HD.out HB.out).mono ?_; rintro e w' ⟨rfl, rfl⟩)
          | (go_at_call 111; refine (digitsOf_any d 4 15 _ (by omega)).mono ?_; rintro e w' ⟨rfl, hg⟩; rw [HN.out]; have HG := Lib.hid hg; clear hg)
          | fail)
        go_ret
        exact ⟨by rw [HF.out]; rfl, HG.out⟩
theorem pfOk_none {l : List Nat} (h : plusOf l = none) (h1 : l ≠ []) : pfOk l = false := by unfold pfOk; rw [h, decide_eq_false h1]; rfl
theorem pfOk_some {l d : List Nat} (h : plusOf l = some d) : pfOk l = (decide (d.length ≤ 15) && digB d) := by
  unfold pfOk
  rw [h]
  cases l with
  | nil => cases h
  | cons a l => rfl
set_option maxHeartbeats 2000000 in
theorem isPrefix_any (s : ByteArray) (w : World) (hs : s.size ≤ 1000000) : Calls Tryz.prog 88 #[.string s] w (RetV (.bool (pfOk (nb s))) w) := by
  obtain ⟨d, b, hd, hb, hsz, h⟩ := plus_cut s
  have HD := Lib.hid hd; have HB := Lib.hid hb; clear hd hb
  rcases h with ⟨rfl, h⟩ | ⟨rfl, h⟩
  · by_cases hn : nb s = []
    · have HV := Lib.hid (show pfOk (nb s) = true by rw [hn]; rfl)
      have e1 := str_nil hn
      clear h hn
      go_enter Tryz.func88, Tryz.ntmps88
      go_wp2_with (first
        | (go_at_call 110; refine (cutPlus_any s d false _ HD.out HB.out).mono ?_; rintro e w' ⟨rfl, rfl⟩)
        | fail)
      go_ret
      exact ⟨by rw [HV.out]; rfl, gr_refl _ _⟩
    · have HV := Lib.hid (pfOk_none h hn)
      obtain ⟨e1, e2, e3⟩ := str_full hn
      clear h hn
      go_enter Tryz.func88, Tryz.ntmps88
      go_wp2_with (first
        | (go_at_call 110; refine (cutPlus_any s d false _ HD.out HB.out).mono ?_; rintro e w' ⟨rfl, rfl⟩)
        | fail)
      go_ret
      exact ⟨by rw [HV.out]; rfl, gr_refl _ _⟩
  · have hV := pfOk_some h
    have hn : ¬ nb s = [] := fun e => by rw [e] at h; cases h
    obtain ⟨e1, e2, e3⟩ := str_full hn
    rw [nb_len] at hV
    obtain ⟨u, hu, hc⟩ := trimDig_eq d
    have HU := Lib.hid hu; have HV := Lib.hid hV; clear hu hV h hn
    by_cases h15 : d.size ≤ 15
    · have d1 : decide ((d.size : Int) ≤ 15) = true := decide_eq_true (by omega)
      rcases hc with ⟨h1, h2⟩ | ⟨h1, h2, h3⟩
      all_goals
        have HF := Lib.hid (show pfOk (nb s) = _ by rw [HV.out, decide_eq_true h15, h1, Bool.true_and])
        clear h1
        go_enter Tryz.func88, Tryz.ntmps88
        go_wp2_with (first
          | (go_at_call 110; refine (cutPlus_any s d true _ HD.out HB.out).mono ?_; rintro e w' ⟨rfl, rfl⟩)
          | (go_at_call 84; refine (trimDig_any d _ (by omega)).mono ?_; rintro e w' ⟨rfl, hg⟩; rw [HU.out]; have HG := Lib.hid hg; clear hg)
          | fail)
        go_ret
        exact ⟨by rw [HF.out]; rfl, HG.out⟩
    · have d1 : decide ((d.size : Int) ≤ 15) = false := decide_eq_false (by omega)
      have HF := Lib.hid (show pfOk (nb s) = false by rw [HV.out, decide_eq_false h15]; rfl)
      clear hc
      go_enter Tryz.func88, Tryz.ntmps88
      go_wp2_with (first
        | (go_at_call 110; refine (cutPlus_any s d true _ HD.out HB.out).mono ?_; rintro e w' ⟨rfl, rfl⟩)
        | fail)
      go_ret
      exact ⟨by rw [HF.out]; rfl, gr_refl _ _⟩
set_option maxHeartbeats 1000000 in
theorem withinA_any (n lo hi : Int) (w : World) : Calls Tryz.prog 46 #[.int .i64 n, .int .i64 lo, .int .i64 hi] w (Same (.bool (inB n lo hi)) w) := by
  have H := Lib.hid (show inB n lo hi = (decide (lo ≤ n) && decide (n ≤ hi)) from rfl)
  by_cases h1 : lo ≤ n <;> by_cases h2 : n ≤ hi
  all_goals
    go_enter Tryz.func46, Tryz.ntmps46
    go_wp2
    go_ret
    exact ⟨by rw [H.out]; simp [h1, h2], rfl⟩
end
end Go.Proofs.YtpildcnoghojpaaGreatDoor
/- Contracts of account.CheckPayers and of the document's PayersFault. Conditions: none. -/
namespace Go.Proofs.YtpildcnoghojpaaGreatDoor
section
open Go.RowKit

theorem Tryz.pyT : StructT Tryz.prog 53 2 := ⟨_, Tryz.underlying53, rfl, by kernel_rfl⟩
theorem payAt_pe {l : List PyV} {i : Nat} {z b : PyV} (h : l[i]? = some z) (h1 : keyOk (nb z.key) = true) (hb : l[i - 1]? = some b) (h3 : leS z.key b.key = false) : payAt l i = if 500 < z.nn then 2 else fstE (numAt (hadN l i) z.nums) z.nn := by
  simp only [payAt, h, Option.elim, h1, hb, h3, Bool.and_false]; rfl
theorem payAt_pz {l : List PyV} {i : Nat} {z : PyV} (h : l[i]? = some z) (h1 : keyOk (nb z.key) = true) (hi : ¬ 0 < i) : payAt l i = if 500 < z.nn then 2 else fstE (numAt (hadN l i) z.nums) z.nn := by
  simp only [payAt, h, Option.elim, h1, decide_eq_false hi, Bool.false_and]; rfl
theorem hadN_one (l : List PyV) (i : Nat) {ns : List ByteArray} {j : Nat} {s : ByteArray} (h : ns[j]? = some s) : hadN l i ++ ns.take (j + 1) = (hadN l i ++ ns.take j) ++ [s] := by
  rw [take_snoc' h, List.append_assoc]
set_option maxHeartbeats 8000000 in
set_option maxRecDepth 100000 in
theorem checkPayers_any (lo : Nat) (A : Option Addr) (n c : Nat) (l : List PyV) (w : World) (h : Pys w lo A n c l) (hn : n ≤ 1000000000) :
    Calls Tryz.prog 72 #[.slice A n c] w (RetV (.int .i64 (pysE l)) w) := by
  have H := Lib.hid h; clear h
  by_cases hb : 500 < n
  · have HF := Lib.hid (show pysE l = 2 by unfold pysE; rw [if_pos (by rw [H.out.1.len]; exact hb)])
    have hb' : decide ((500 : Int) < (n : Int)) = true := decide_eq_true (by omega)
    go_enter Tryz.func72, Tryz.ntmps72
    go_wp2_with fail
    go_ret
    exact ⟨by rw [HF.out]; rfl, gr_refl _ _⟩
  · have hb' : decide ((500 : Int) < (n : Int)) = false := decide_eq_false (by omega)
    have HF := Lib.hid (show pysE l = fstE (payAt l) n by unfold pysE; rw [if_neg (by rw [H.out.1.len]; exact hb), H.out.1.len])
    have hmm := @run_makeMap Tryz.prog
    go_enter Tryz.func72, Tryz.ntmps72
    go_wp2_with fail
    clear hmm
    go_loopw [4, 5, 14] (fun _ _ t wr => ∃ k s m : Nat, k ≤ n ∧ t = .int .i64 k ∧ w.grownBy wr none ∧ SetS wr w.heap.size m (hadN l k) s ∧ m ≤ 500 * k ∧ fstE (payAt l) k = 0) (fun _ _ t _ => n - (intOf t).toNat)
    case atStart => exact ⟨0, 0, 0, Nat.zero_le _, rfl, gr_alloc (gr_refl _ _) _, SetS.new _, by omega, rfl⟩
    case round =>
      obtain ⟨k, s0, m, hk, rfl, hg, hset, hm, ha⟩ := hrel
      have zr := hg.size
      have zs : w.heap.size < wr.heap.size := by obtain ⟨_, h1, _⟩ := hset; exact h1.lt
      have HA := Lib.hid ha; have HG := Lib.hid hg; have HSET := Lib.hid hset; clear ha hg hset
      by_cases hlt : k < n
      · obtain ⟨g, o, ⟨key, nA, nn, nc, nums⟩, rfl, _, hgl, hz, hcc⟩ := (H.out.1.grown HG.out (fun g e => by cases e)).get PyV.row_len hlt
        obtain ⟨⟨p1, p2, p3⟩, p4⟩ := H.out.2 _ (mem_of_get hz)
        dsimp only at p1 p2 p3 p4
        have HP2 := Lib.hid p2; have HPN := Lib.hid p4; clear p2 p4
        have HZ := Lib.hid hz; have HC := Lib.hid hcc; clear hz hcc
        go_wp2_with (first
          | (refine wpl_load_at Tryz.pyT rfl _ rfl _ rfl [.string key, .slice nA nn nc] rfl (fun j u hu => by rw [add_mk]; exact HC.out j u hu) ?_)
          | fail)
        refine (isKey_any key _ (by omega)).mono ?_
        rintro e w2 ⟨rfl, hg2⟩
        have hsB := (Blk.new wr 53 #[.string key, .slice nA nn nc]).grown hg2 (by simp)
        have k0 := hsB.cell 0
        have k1 := hsB.cell 1
        replace HSET := Lib.hid ((HSET.out.kept (gr_alloc (gr_refl _ none) _) (by simp)).kept hg2 (by simp))
        replace HG := Lib.hid (gr_none (gr_alloc HG.out _) hg2)
        have HB := Lib.hid hsB
        have z2 := hg2.size; simp at z2
        clear hg2 hsB
        cases hB1 : keyOk (nb key)
        · have e := payAt_5 HZ.out hB1
          have HFIN := Lib.hid (show pysE l = 5 by rw [HF.out, fstE_stop HA.out (by rw [e]; decide) hlt, e])
          clear e
          go_wp2_with fail
          go_ret
          exact ⟨by rw [HFIN.out]; rfl, HG.out⟩
        · by_cases h0 : 0 < k
          · obtain ⟨⟨key', nA', nn', nc', nums'⟩, hb⟩ : ∃ b, l[k - 1]? = some b := ⟨_, List.getElem?_eq_getElem (by rw [H.out.1.len]; omega)⟩
            have kb := (H.out.1.grown HG.out (fun g e => by cases e)).at_ PyV.row_len hb 0 _ rfl
            simp only [Nat.add_zero] at kb
            have HBB := Lib.hid hb; clear hb
            have hi0 : decide ((0 : Int) < (k : Int)) = true := by simpa using h0
            have s2 : (0 : Int) ≤ (k : Int) - 1 := by omega
            have s5 : (1 : Int) ≤ (k : Int) := by omega
            have s3 : (k : Int) - 1 < (n : Int) := by omega
            have s6 : (0 : Int) < (n : Int) := by omega
            have s1 : IntKind.i64.wrap ((k : Int) - 1) = (k : Int) - 1 := IntWalk.i64_in _ (by omega)
            have s4 : ((k : Int) - 1).toNat = k - 1 := by omega
            cases h7 : (Op.bytesLess key.toList key'.toList || key.toList == key'.toList)
            · have HPA := Lib.hid (payAt_pe HZ.out hB1 HBB.out h7)
              go_wp2_with fail
              go_quiet (fail)
              clear s1 s4
              by_cases c5 : 500 < nn
              · have d5 : decide ((500 : Int) < (nn : Int)) = true := decide_eq_true (by omega)
                have e := HPA.out
                rw [if_pos c5] at e
                have HFIN := Lib.hid (show pysE l = 2 by rw [HF.out, fstE_stop HA.out (by rw [e]; decide) hlt, e])
                clear e
                go_wp2_with fail
                go_ret
                exact ⟨by rw [HFIN.out]; rfl, gr_drewN HG.out _⟩
              · have d5 : decide ((500 : Int) < (nn : Int)) = false := decide_eq_false (by omega)
                replace HPA := Lib.hid (show payAt l k = fstE (numAt (hadN l k) nums) nn by rw [HPA.out, if_neg c5])
                go_wp2_with fail
                clear k0 k1 HB
                have hlw : wr.heap.size ≤ w2.heap.size := by omega
                obtain ⟨wo, rfl⟩ : ∃ wo : World, wo = wr := ⟨_, rfl⟩
                go_loopw [7, 46] (fun _ t wr => ∃ j s m : Nat, j ≤ nn ∧ t = .int .i64 j ∧ w.grownBy wr none ∧ SetS wr w.heap.size m (hadN l k ++ nums.take j) s ∧ m ≤ 500 * k + j ∧ fstE (numAt (hadN l k) nums) j = 0) (fun _ t _ => nn - (intOf t).toNat)
                case atStart => exact ⟨0, _, m, Nat.zero_le _, rfl, gr_drewN HG.out _, by rw [List.take_zero, List.append_nil]; exact HSET.out.kept (gr_drewN (gr_refl _ none) _) (by simp), by omega, rfl⟩
                case round =>
                  clear HG HSET
                  obtain ⟨j, s1, m1, hj, rfl, hg, hset, hm1, ha⟩ := hrel
                  have zr1 := hg.size
                  have zs1 : w.heap.size < wr.heap.size := by obtain ⟨_, h1, _⟩ := hset; exact h1.lt
                  have HN := Lib.hid ha; have HG := Lib.hid hg; have HSET := Lib.hid hset; clear ha hg hset
                  by_cases hlt2 : j < nn
                  · obtain ⟨g2, o2, s, rfl, _, hgl2, hz, hcc⟩ := (HPN.out.grown HG.out (fun g e => by cases e)).get srow_len hlt2
                    have hsz : s.size ≤ 1000 := HP2.out _ (mem_of_get hz)
                    have ks := hcc 0 _ rfl
                    simp only [Nat.mul_one, Nat.add_zero] at ks
                    have HS := Lib.hid hz; clear hz hcc
                    go_wp2_with fail
                    refine (isNumber_any s _ (by omega)).mono ?_
                    rintro e w3 ⟨rfl, hg3⟩
                    replace HSET := Lib.hid (HSET.out.kept hg3 (by simp))
                    replace HG := Lib.hid (gr_none HG.out hg3)
                    have z3 := hg3.size
                    clear hg3 ks
                    cases hB2 : phOk (nb s)
                    · have e := numAt_3 (had := hadN l k) HS.out hB2
                      have HFIN := Lib.hid (show pysE l = 3 by rw [HF.out, fstE_stop HA.out (by rw [HPA.out, fstE_stop HN.out (by rw [e]; decide) hlt2, e]; decide) hlt, HPA.out, fstE_stop HN.out (by rw [e]; decide) hlt2, e])
                      clear e
                      go_wp2_with fail
                      go_ret
                      exact ⟨by rw [HFIN.out]; rfl, HG.out⟩
                    · obtain ⟨M, hM⟩ : ∃ M, memS (hadN l k ++ nums.take j) s = M := ⟨_, rfl⟩
                      have HM := Lib.hid hM; clear hM
                      cases M
                      · have HE := Lib.hid (numAt_z HS.out hB2 HM.out)
                        go_wp2_with (first
                          | (at_lookup; refine wpl_slook rfl _ _ rfl rfl s rfl (by unfold maxLen; omega) HSET.out ?_; rw [HM.out])
                          | (at_mapUpdate
                             refine wpl_sput rfl _ _ _ rfl rfl s rfl rfl (by unfold maxLen; omega) (by exact HSET.out) (by unfold maxLen; omega) ?_
                             intro w5 hset5 hg5
                             have HS5 := Lib.hid hset5; have HG5 := Lib.hid (gr_trans HG.out hg5 (fun g e => .inr (by injection e with e; omega)))
                             clear hset5 hg5)
                          | fail)
                        go_roundw
                        case rel => exact ⟨j + 1, _, _, by omega, by go_num, HG5.out, by rw [hadN_one l k HS.out]; exact HS5.out, by omega, fstE_zero HN.out HE.out⟩
                        case measure => simp [intOf]; omega
                      · have e := numAt_6 HS.out hB2 HM.out
                        have HFIN := Lib.hid (show pysE l = 6 by rw [HF.out, fstE_stop HA.out (by rw [HPA.out, fstE_stop HN.out (by rw [e]; decide) hlt2, e]; decide) hlt, HPA.out, fstE_stop HN.out (by rw [e]; decide) hlt2, e])
                        clear e
                        go_wp2_with (first
                          | (at_lookup; refine wpl_slook rfl _ _ rfl rfl s rfl (by unfold maxLen; omega) HSET.out ?_; rw [HM.out])
                          | fail)
                        go_ret
                        exact ⟨by rw [HFIN.out]; rfl, HG.out⟩
                  · obtain rfl : j = nn := by omega
                    have HE := Lib.hid (show payAt l k = 0 by rw [HPA.out, HN.out])
                    have HT := Lib.hid (show SetS wr w.heap.size m1 (hadN l (k + 1)) s1 by
                      rw [hadN_succ HZ.out]
                      have h := HSET.out
                      rw [List.take_of_length_le (by rw [HPN.out.len]; exact Nat.le_refl _)] at h
                      exact h)
                    go_wp2_with fail
                    go_roundw
                    case rel => exact ⟨k + 1, _, _, by omega, by go_num, HG.out, HT.out, by omega, fstE_zero HA.out HE.out⟩
                    case measure => simp [intOf]; omega
            · have e := payAt_7 HZ.out hB1 h0 HBB.out h7
              have HFIN := Lib.hid (show pysE l = 7 by rw [HF.out, fstE_stop HA.out (by rw [e]; decide) hlt, e])
              clear e
              go_wp2_with fail
              go_quiet (fail)
              go_wp2_with fail
              go_ret
              exact ⟨by rw [HFIN.out]; rfl, gr_drewN HG.out _⟩
          · have HPA := Lib.hid (payAt_pz HZ.out hB1 h0)
            have hi0 : decide ((0 : Int) < (k : Int)) = false := decide_eq_false (by omega)
            go_wp2_with fail
            go_quiet (fail)
            by_cases c5 : 500 < nn
            · have d5 : decide ((500 : Int) < (nn : Int)) = true := decide_eq_true (by omega)
              have e := HPA.out
              rw [if_pos c5] at e
              have HFIN := Lib.hid (show pysE l = 2 by rw [HF.out, fstE_stop HA.out (by rw [e]; decide) hlt, e])
              clear e
              go_wp2_with fail
              go_ret
              exact ⟨by rw [HFIN.out]; rfl, gr_drewN HG.out _⟩
            · have d5 : decide ((500 : Int) < (nn : Int)) = false := decide_eq_false (by omega)
              replace HPA := Lib.hid (show payAt l k = fstE (numAt (hadN l k) nums) nn by rw [HPA.out, if_neg c5])
              go_wp2_with fail
              clear k0 k1 HB
              have hlw : wr.heap.size ≤ w2.heap.size := by omega
              obtain ⟨wo, rfl⟩ : ∃ wo : World, wo = wr := ⟨_, rfl⟩
              go_loopw [7, 46] (fun _ t wr => ∃ j s m : Nat, j ≤ nn ∧ t = .int .i64 j ∧ w.grownBy wr none ∧ SetS wr w.heap.size m (hadN l k ++ nums.take j) s ∧ m ≤ 500 * k + j ∧ fstE (numAt (hadN l k) nums) j = 0) (fun _ t _ => nn - (intOf t).toNat)
              case atStart => exact ⟨0, _, m, Nat.zero_le _, rfl, gr_drewN HG.out _, by rw [List.take_zero, List.append_nil]; exact HSET.out.kept (gr_drewN (gr_refl _ none) _) (by simp), by omega, rfl⟩
              case round =>
                clear HG HSET
                obtain ⟨j, s1, m1, hj, rfl, hg, hset, hm1, ha⟩ := hrel
                have zr1 := hg.size
                have zs1 : w.heap.size < wr.heap.size := by obtain ⟨_, h1, _⟩ := hset; exact h1.lt
                have HN := Lib.hid ha; have HG := Lib.hid hg; have HSET := Lib.hid hset; clear ha hg hset
                by_cases hlt2 : j < nn
                · obtain ⟨g2, o2, s, rfl, _, hgl2, hz, hcc⟩ := (HPN.out.grown HG.out (fun g e => by cases e)).get srow_len hlt2
                  have hsz : s.size ≤ 1000 := HP2.out _ (mem_of_get hz)
                  have ks := hcc 0 _ rfl
                  simp only [Nat.mul_one, Nat.add_zero] at ks
                  have HS := Lib.hid hz; clear hz hcc
                  go_wp2_with fail
                  refine (isNumber_any s _ (by omega)).mono ?_
                  rintro e w3 ⟨rfl, hg3⟩
                  replace HSET := Lib.hid (HSET.out.kept hg3 (by simp))
                  replace HG := Lib.hid (gr_none HG.out hg3)
                  have z3 := hg3.size
                  clear hg3 ks
                  cases hB2 : phOk (nb s)
                  · have e := numAt_3 (had := hadN l k) HS.out hB2
                    have HFIN := Lib.hid (show pysE l = 3 by rw [HF.out, fstE_stop HA.out (by rw [HPA.out, fstE_stop HN.out (by rw [e]; decide) hlt2, e]; decide) hlt, HPA.out, fstE_stop HN.out (by rw [e]; decide) hlt2, e])
                    clear e
                    go_wp2_with fail
                    go_ret
                    exact ⟨by rw [HFIN.out]; rfl, HG.out⟩
                  · obtain ⟨M, hM⟩ : ∃ M, memS (hadN l k ++ nums.take j) s = M := ⟨_, rfl⟩
                    have HM := Lib.hid hM; clear hM
                    cases M
                    · have HE := Lib.hid (numAt_z HS.out hB2 HM.out)
                      go_wp2_with (first
                        | (at_lookup; refine wpl_slook rfl _ _ rfl rfl s rfl (by unfold maxLen; omega) HSET.out ?_; rw [HM.out])
                        | (at_mapUpdate
                           refine wpl_sput rfl _ _ _ rfl rfl s rfl rfl (by unfold maxLen; omega) (by exact HSET.out) (by unfold maxLen; omega) ?_
                           intro w5 hset5 hg5
                           have HS5 := Lib.hid hset5; have HG5 := Lib.hid (gr_trans HG.out hg5 (fun g e => .inr (by injection e with e; omega)))
                           clear hset5 hg5)
                        | fail)
                      go_roundw
                      case rel => exact ⟨j + 1, _, _, by omega, by go_num, HG5.out, by rw [hadN_one l k HS.out]; exact HS5.out, by omega, fstE_zero HN.out HE.out⟩
                      case measure => simp [intOf]; omega
                    · have e := numAt_6 HS.out hB2 HM.out
                      have HFIN := Lib.hid (show pysE l = 6 by rw [HF.out, fstE_stop HA.out (by rw [HPA.out, fstE_stop HN.out (by rw [e]; decide) hlt2, e]; decide) hlt, HPA.out, fstE_stop HN.out (by rw [e]; decide) hlt2, e])
                      clear e
                      go_wp2_with (first
                        | (at_lookup; refine wpl_slook rfl _ _ rfl rfl s rfl (by unfold maxLen; omega) HSET.out ?_; rw [HM.out])
                        | fail)
                      go_ret
                      exact ⟨by rw [HFIN.out]; rfl, HG.out⟩
                · obtain rfl : j = nn := by omega
                  have HE := Lib.hid (show payAt l k = 0 by rw [HPA.out, HN.out])
                  have HT := Lib.hid (show SetS wr w.heap.size m1 (hadN l (k + 1)) s1 by
                    rw [hadN_succ HZ.out]
                    have h := HSET.out
                    rw [List.take_of_length_le (by rw [HPN.out.len]; exact Nat.le_refl _)] at h
                    exact h)
                  go_wp2_with fail
                  go_roundw
                  case rel => exact ⟨k + 1, _, _, by omega, by go_num, HG.out, HT.out, by omega, fstE_zero HA.out HE.out⟩
                  case measure => simp [intOf]; omega
      · obtain rfl : k = n := by omega
        go_wp2_with fail
        go_ret
        exact ⟨by rw [HF.out, HA.out]; rfl, HG.out⟩
end
end Go.Proofs.YtpildcnoghojpaaGreatDoor
/- Contracts of the orders of acts, of isFrom and callerId. Conditions: acts of bounded numbers for the document's order. -/
namespace Go.Proofs.YtpildcnoghojpaaGreatDoor
section
open Go.RowKit

theorem withinV_any (n lo hi : Int) (w : World) : Calls Tryz.prog 57 #[.int .i64 n, .int .i64 lo, .int .i64 hi] w (Same (.bool (inB n lo hi)) w) := by
  have hfin : inB n lo hi = (decide (lo ≤ n) && decide (n ≤ hi)) := rfl
  have H := Lib.hid hfin; clear hfin
  by_cases h1 : lo ≤ n <;> by_cases h2 : n ≤ hi
  all_goals
    go_enter Tryz.func57, Tryz.ntmps57
    go_wp2
    go_ret
    exact ⟨by rw [H.out]; simp [h1, h2], rfl⟩
end
end Go.Proofs.YtpildcnoghojpaaGreatDoor
/- voiced() answers true. Conditions: none. -/
namespace Go.Proofs.YtpildcnoghojpaaGreatDoor
section
open Go.RowKit

theorem Tryz.boxT : StructT Tryz.prog 102 9 := ⟨_, Tryz.underlying102, rfl, by kernel_rfl⟩
theorem Tryz.msgT : StructT Tryz.prog 104 6 := ⟨_, Tryz.underlying104, rfl, by kernel_rfl⟩
set_option maxRecDepth 100000 in
set_option maxHeartbeats 4000000 in
theorem checkBox0_any (w : World) : Calls Tryz.prog 83 #[.agg #[.string ⟨#[98]⟩, .int .i64 1, .int .i64 1, .int .i64 0, .int .i64 0, .slice none 0 0, .bool false, .int .i64 0, .int .i64 0]] w (RetV (.int .i64 0) w) := by
  have i1 : inB 1 1 1000 = true := by decide
  have i2 : inB 1 0 4000 = true := by decide
  have i3 : inB 0 0 4000 = true := by decide
  have i4 : inB 0 0 1439 = true := by decide
  have i5 : inB 0 (-1440) 1440 = true := by decide
  obtain ⟨w1, hw1⟩ : ∃ v, w.alloc (.cells #[.string ⟨#[98]⟩, .int .i64 1, .int .i64 1, .int .i64 0, .int .i64 0, .slice none 0 0, .bool false, .int .i64 0, .int .i64 0] 102) = v := ⟨_, rfl⟩
  obtain ⟨b, hb⟩ : ∃ b, w.heap.size = b := ⟨_, rfl⟩
  have HB := Lib.hid (show Blk w1 b 102 #[.string ⟨#[98]⟩, .int .i64 1, .int .i64 1, .int .i64 0, .int .i64 0, .slice none 0 0, .bool false, .int .i64 0, .int .i64 0] by rw [← hw1, ← hb]; exact Blk.new _ _ _)
  have HG := Lib.hid (show w.grownBy w1 none by rw [← hw1]; exact gr_alloc (gr_refl _ _) _)
  have HW := Lib.hid hw1; have HZ := Lib.hid hb
  clear hw1 hb
  go_enter Tryz.func83, Tryz.ntmps83
  go_upto_region 1 with (fail)
  rw [HW.out]
  (try rw [HZ.out])
  have c1 := HB.out.cell 1
  have c2 := HB.out.cell 2
  have c3 := HB.out.cell 3
  have c4 := HB.out.cell 4
  have c5 := HB.out.cell 5
  have c6 := HB.out.cell 6
  have c7 := HB.out.cell 7
  have c8 := HB.out.cell 8
  go_wp2_with (first
    | (go_at_call 57; refine same_calls (withinV_any _ _ _ _) ?_; first | rw [i1] | rw [i2] | rw [i3] | rw [i4] | rw [i5])
    | fail)
  go_loopw [4, 34] (fun _ t wr => t = .int .i64 0 ∧ w1 = wr) (fun _ _ _ => 0)
  case atStart => exact ⟨rfl, rfl⟩
  case round =>
    obtain ⟨rfl, rfl⟩ := hrel
    go_wp2_with (first
      | (go_at_call 57; refine same_calls (withinV_any _ _ _ _) ?_; first | rw [i1] | rw [i2] | rw [i3] | rw [i4] | rw [i5])
      | fail)
    go_ret
    exact ⟨rfl, HG.out⟩
set_option maxRecDepth 100000 in
set_option maxHeartbeats 4000000 in
theorem checkBoxes0_any (g : Nat) (w : World) (h : Blk w g 102 #[.string ⟨#[98]⟩, .int .i64 1, .int .i64 1, .int .i64 0, .int .i64 0, .slice none 0 0, .bool false, .int .i64 0, .int .i64 0]) : Calls Tryz.prog 55 #[.slice (some ⟨g, 0, none⟩) 1 1] w (RetV (.int .i64 0) w) := by
  have k1 : keyOk (nb ⟨#[98]⟩) = true := by decide
  have H := Lib.hid h
  clear h
  go_enter Tryz.func55, Tryz.ntmps55
  go_wp2_with fail
  go_loopw [3, 4, 5, 11] (fun _ _ _ t wr => ∃ i : Nat, i ≤ 1 ∧ t = .int .i64 i ∧ w.grownBy wr none) (fun _ _ _ t _ => 1 - (intOf t).toNat)
  case atStart => exact ⟨0, by omega, rfl, gr_refl _ _⟩
  case round =>
    obtain ⟨i, hi, rfl, hg⟩ := hrel
    have HG := Lib.hid hg
    have HB := Lib.hid (H.out.grown hg (by simp))
    clear hg
    have hi2 : i = 0 ∨ i = 1 := by omega
    rcases hi2 with rfl | rfl
    · clear hi
      go_upto_region 6 with (first
        | (refine wpl_load_all Tryz.boxT rfl _ rfl g rfl 102 _ HB.out rfl ?_)
        | (refine wpl_store_all Tryz.boxT rfl _ _ rfl _ rfl _ _ _ rfl (Blk.new _ _ _) rfl rfl (by simp [Value.oneCell']) ?_; intro wz hst; have HST := Lib.hid hst; clear hst)
        | fail)
      obtain ⟨sb, hsb⟩ : ∃ b, wr.heap.size = b := ⟨_, rfl⟩
      have HS := Lib.hid (show Blk wz sb 102 #[.string ⟨#[98]⟩, .int .i64 1, .int .i64 1, .int .i64 0, .int .i64 0, .slice none 0 0, .bool false, .int .i64 0, .int .i64 0] by rw [← hsb]; exact HST.out.1)
      have hg2 : w.grownBy wz none := gr_trans (gr_alloc HG.out _) HST.out.2.1 (fun g e => .inr (by injection e with e; have := HG.out.size; omega))
      have HG2 := Lib.hid hg2
      (try rw [hsb])
      have c0 := HS.out.cell 0
      clear hsb HST HG hg2
      go_wp2_with (first
        | (go_at_call 56; refine (isKey_any _ _ (by decide)).mono ?_; rintro e wk ⟨rfl, hgk⟩; first | rw [k1] | rw [k2])
        | fail)
      have HS2 := Lib.hid (HS.out.grown hgk (by simp))
      replace HG2 := Lib.hid (gr_none HG2.out hgk)
      clear HS hgk c0
      have c0 := HS2.out.cell 0
      go_wp2_with fail
      go_quiet (fail)
      go_wp2_with (first
        | (refine wpl_load_all Tryz.boxT rfl _ rfl sb rfl 102 _ HS2.out rfl ?_)
        | (go_at_call 83; refine (checkBox0_any _).mono ?_; rintro e wc ⟨rfl, hgc⟩; have HGC := Lib.hid hgc; clear hgc)
        | fail)
      go_roundw
      case rel => exact ⟨1, by omega, by go_num, gr_none (gr_drewN HG2.out _) HGC.out⟩
      case measure => simp [intOf]
    · go_wp2_with fail
      go_ret
      exact ⟨rfl, HG.out⟩
set_option maxRecDepth 100000 in
set_option maxHeartbeats 4000000 in
theorem ends0_any (w : World) : Calls Tryz.prog 58 #[.agg #[.string ⟨#[98]⟩, .int .i64 1, .int .i64 1, .int .i64 0, .int .i64 0, .slice none 0 0, .bool false, .int .i64 0, .int .i64 0], .agg #[.string ⟨#[109]⟩, .string ⟨#[]⟩, .int .i64 0, .int .i64 1, .int .i64 1, .int .i64 0]] w (RetV (.int .i64 86400000) w) := by
  obtain ⟨w1, hw1⟩ : ∃ v, w.alloc (.cells #[.string ⟨#[98]⟩, .int .i64 1, .int .i64 1, .int .i64 0, .int .i64 0, .slice none 0 0, .bool false, .int .i64 0, .int .i64 0] 102) = v := ⟨_, rfl⟩
  obtain ⟨w2, hw2⟩ : ∃ v, w1.alloc (.cells #[.string ⟨#[109]⟩, .string ⟨#[]⟩, .int .i64 0, .int .i64 1, .int .i64 1, .int .i64 0] 104) = v := ⟨_, rfl⟩
  have HB := Lib.hid (show Blk w2 w.heap.size 102 #[.string ⟨#[98]⟩, .int .i64 1, .int .i64 1, .int .i64 0, .int .i64 0, .slice none 0 0, .bool false, .int .i64 0, .int .i64 0] by rw [← hw2, ← hw1]; exact (Blk.new _ _ _).alloc _)
  have HM := Lib.hid (show Blk w2 (w.heap.size + 1) 104 #[.string ⟨#[109]⟩, .string ⟨#[]⟩, .int .i64 0, .int .i64 1, .int .i64 1, .int .i64 0] by
    rw [← hw2, ← hw1]
    have h := Blk.new (w.alloc (.cells #[.string ⟨#[98]⟩, .int .i64 1, .int .i64 1, .int .i64 0, .int .i64 0, .slice none 0 0, .bool false, .int .i64 0, .int .i64 0] 102)) 104 #[.string ⟨#[109]⟩, .string ⟨#[]⟩, .int .i64 0, .int .i64 1, .int .i64 1, .int .i64 0]
    simpa using h)
  have HG := Lib.hid (show w.grownBy w2 none by rw [← hw2, ← hw1]; exact gr_alloc (gr_alloc (gr_refl _ _) _) _)
  have HW := Lib.hid hw2; have HW1 := Lib.hid hw1
  clear hw1 hw2
  go_enter Tryz.func58, Tryz.ntmps58
  go_upto_region 1 with (fail)
  (try rw [HW1.out])
  (try rw [HW.out])
  have c2 := HB.out.cell 2
  have c3 := HB.out.cell 3
  have c4 := HB.out.cell 4
  have m4 := HM.out.cell 4
  have m5 := HM.out.cell 5
  go_wp2_with fail
  go_ret
  exact ⟨rfl, HG.out⟩
set_option maxRecDepth 100000 in
set_option maxHeartbeats 4000000 in
theorem voicedEnds_any (w : World) : Calls Tryz.prog 27 #[.agg #[.string ⟨#[98]⟩, .int .i64 1, .int .i64 1, .int .i64 0, .int .i64 0, .slice none 0 0, .bool false, .int .i64 0, .int .i64 0], .agg #[.string ⟨#[109]⟩, .string ⟨#[]⟩, .int .i64 0, .int .i64 1, .int .i64 1, .int .i64 0]] w (RetV (.tuple #[.int .i64 86400000, .int .i64 0]) w) := by
  have k2 : keyOk (nb ⟨#[109]⟩) = true := by decide
  have i1 : inB 1 1 86400000 = true := by decide
  have i2 : inB 1 1 4 = true := by decide
  obtain ⟨w1, hw1⟩ : ∃ v, w.alloc (.cells #[.string ⟨#[98]⟩, .int .i64 1, .int .i64 1, .int .i64 0, .int .i64 0, .slice none 0 0, .bool false, .int .i64 0, .int .i64 0] 102) = v := ⟨_, rfl⟩
  obtain ⟨w2, hw2⟩ : ∃ v, w1.alloc (.cells #[.string ⟨#[109]⟩, .string ⟨#[]⟩, .int .i64 0, .int .i64 1, .int .i64 1, .int .i64 0] 104) = v := ⟨_, rfl⟩
  have HB := Lib.hid (show Blk w2 w.heap.size 102 #[.string ⟨#[98]⟩, .int .i64 1, .int .i64 1, .int .i64 0, .int .i64 0, .slice none 0 0, .bool false, .int .i64 0, .int .i64 0] by rw [← hw2, ← hw1]; exact (Blk.new _ _ _).alloc _)
  have HM := Lib.hid (show Blk w2 (w.heap.size + 1) 104 #[.string ⟨#[109]⟩, .string ⟨#[]⟩, .int .i64 0, .int .i64 1, .int .i64 1, .int .i64 0] by
    rw [← hw2, ← hw1]
    have h := Blk.new (w.alloc (.cells #[.string ⟨#[98]⟩, .int .i64 1, .int .i64 1, .int .i64 0, .int .i64 0, .slice none 0 0, .bool false, .int .i64 0, .int .i64 0] 102)) 104 #[.string ⟨#[109]⟩, .string ⟨#[]⟩, .int .i64 0, .int .i64 1, .int .i64 1, .int .i64 0]
    simpa using h)
  have HG := Lib.hid (show w.grownBy w2 none by rw [← hw2, ← hw1]; exact gr_alloc (gr_alloc (gr_refl _ _) _) _)
  have HW := Lib.hid hw2; have HW1 := Lib.hid hw1
  clear hw1 hw2
  go_enter Tryz.func27, Tryz.ntmps27
  go_upto_region 1 with (fail)
  (try rw [HW1.out])
  (try rw [HW.out])
  go_wp2_with (first
    | (refine wpl_load_all Tryz.boxT rfl _ rfl _ rfl 102 _ HB.out rfl ?_)
    | fail)
  refine (checkBoxes0_any _ _ (Blk.new _ _ _)).mono ?_
  rintro e w3 ⟨rfl, hg3⟩
  have hg4 := gr_trans (gr_alloc (gr_refl w2 none) (.cells #[.string ⟨#[98]⟩, .int .i64 1, .int .i64 1, .int .i64 0, .int .i64 0, .slice none 0 0, .bool false, .int .i64 0, .int .i64 0] 102)) hg3 (fun g e => by cases e)
  replace HB := Lib.hid (HB.out.grown hg4 (by simp))
  replace HM := Lib.hid (HM.out.grown hg4 (by simp))
  replace HG := Lib.hid (gr_none HG.out hg4)
  clear hg3 hg4
  have m0 := HM.out.cell 0
  go_upto_region 6 with (first
    | (go_at_call 56; refine (isKey_any _ _ (by decide)).mono ?_; rintro e wk ⟨rfl, hgk⟩; first | rw [k1] | rw [k2])
    | fail)
  replace HB := Lib.hid (HB.out.grown hgk (by simp))
  replace HM := Lib.hid (HM.out.grown hgk (by simp))
  replace HG := Lib.hid (gr_none HG.out hgk)
  clear hgk m0
  have m2 := HM.out.cell 2
  have m3 := HM.out.cell 3
  have m4 := HM.out.cell 4
  have m5 := HM.out.cell 5
  have q1 : momB 0 = true := by decide
  go_wp2_with (first
    | (go_at_call 53; refine same_calls (isMomB_any _ _) ?_)
    | (go_at_call 57; refine same_calls (withinV_any _ _ _ _) ?_; first | rw [i1] | rw [i2] | rw [i3] | rw [i4] | rw [i5])
    | (refine wpl_load_all Tryz.boxT rfl _ rfl _ rfl 102 _ HB.out rfl ?_)
    | (refine wpl_load_all Tryz.msgT rfl _ rfl _ rfl 104 _ HM.out rfl ?_)
    | (go_at_call 58; refine (ends0_any _).mono ?_; rintro e wc ⟨rfl, hgc⟩; have HGC := Lib.hid hgc; clear hgc)
    | fail)
  go_ret2
  exact ⟨rfl, gr_none HG.out HGC.out⟩
end
end Go.Proofs.YtpildcnoghojpaaGreatDoor
/- h10facts is true. Conditions: the table of math/bits. -/
namespace Go.Proofs.YtpildcnoghojpaaGreatDoor
section
open Go.RowKit

/-! h10facts. -/
set_option maxHeartbeats 1000000 in
theorem expand128_any (w : World) : Calls Tryz.prog 28 #[.int .u8 128] w (Same (.int .i64 32124) w) := by
  go_enter Tryz.func28, Tryz.ntmps28
  go_wp2
  go_ret
  exact ⟨rfl, rfl⟩
theorem presR_f : presR ⟨⟨#[97]⟩, none, 0, 0, 0, 5, none, 0, 0, 0, [], []⟩ 4 = .tuple #[.bool true, .int .i64 0] := by
  have h : agsE [⟨⟨#[97]⟩, none, 0, 0, 0, 5, none, 0, 0, 0, [], []⟩] = 0 := by decide +kernel
  unfold presR
  rw [if_pos h, if_pos (by decide)]
  have h2 : presB ⟨⟨#[97]⟩, none, 0, 0, 0, 5, none, 0, 0, 0, [], []⟩ 4 = true := by decide
  rw [h2]
set_option maxRecDepth 100000 in
set_option maxHeartbeats 4000000 in
theorem h10_true (w : World) (ht : DbT w) : Calls Tryz.prog 12 #[] w (RetV (.bool true) w) := by
  have HT := Lib.hid ht; clear ht
  have hx : (strN [50, 49]).toList = [50, 49] := by rw [ByteArray.toList_eq]; decide
  go_enter Tryz.func12, Tryz.ntmps12
  go_wp2_with fail
  refine (least_any ⟨#[78, 49]⟩ _ HT.out).mono ?_
  rintro e w1 ⟨rfl, hg1⟩
  rw [leR_n1]
  have HG := Lib.hid hg1; clear hg1
  go_wp2_with fail
  refine (Present_any 0 ⟨⟨#[97]⟩, none, 0, 0, 0, 5, none, 0, 0, 0, [], []⟩ 4 _ ⟨⟨by decide, (fun s hs => by cases hs), Nat.zero_le _, Nat.zero_le _⟩, Recs.nil, Recs.nil⟩).mono ?_
  rintro e w2 ⟨rfl, hg2⟩
  rw [presR_f]
  replace HG := Lib.hid (gr_none HG.out hg2); clear hg2
  go_wp2_with fail
  refine (voicedEnds_any _).mono ?_
  rintro e w3 ⟨rfl, hg3⟩
  replace HG := Lib.hid (gr_none HG.out hg3); clear hg3
  go_wp2_with (first
    | (go_at_call 28; refine (expand128_any _).mono ?_; rintro e w4 ⟨rfl, rfl⟩)
    | fail)
  go_ret
  exact ⟨rfl, HG.out⟩
end
end Go.Proofs.YtpildcnoghojpaaGreatDoor

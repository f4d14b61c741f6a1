/- strings.Trim at the signs of keys, the document's 'only'; what a key is: number.IsKey and the document's Key; moments. Conditions: none. -/
import Derived.Test.YtpildcnoghojpaaGreatDoorBun1
import Derived.Test.YtpildcnoghojpaaGreatDoorShelfTrim
import Derived.Laws.Cover1
import Derived.WalkKit
import Derived.Deep.QuietTactic
import Derived.BigQuiet
import Derived.Outline
import Derived.IntWalk
import Derived.Deep.CutBlock
import Derived.Shelf.SlSortCmp.NoneTotal
namespace Go.Proofs.YtpildcnoghojpaaGreatDoor
section
open Go.RowKit

/-! The first place of a byte, or -1. -/
/-! Trimmed strings. -/
theorem tr_head {p : UInt8 → Bool} {l : List UInt8} {a : UInt8} {r : List UInt8} (h : l.dropWhile p = a :: r) : p a = false := by
  induction l with
  | nil => cases h
  | cons b l ih =>
    rw [List.dropWhile_cons] at h
    split at h
    · exact ih h
    · rename_i hp
      injection h with h1 h2
      subst h1
      simpa using hp
theorem tr_all {p : UInt8 → Bool} {l : List UInt8} : l.dropWhile p = [] ↔ ∀ a ∈ l, p a = true := by
  induction l with
  | nil => simp
  | cons b l ih =>
    rw [List.dropWhile_cons]
    by_cases hp : p b = true
    · rw [if_pos hp, ih]; simp [hp]
    · rw [if_neg hp]; simp [hp]
theorem tr_nil (l cs : List UInt8) : Lib.trimS l cs = [] ↔ ∀ b ∈ l, cs.contains b = true := by
  unfold Lib.trimS Lib.trimLeftS Lib.trimRightS
  rw [tr_all]
  constructor
  · intro h
    cases hd : l.reverse.dropWhile (cs.contains ·) with
    | nil =>
      have := tr_all.1 hd
      intro b hb
      exact this b (by simpa using hb)
    | cons a r =>
      exfalso
      have h1 := tr_head hd
      have h2 := h a (by rw [hd]; simp)
      rw [h1] at h2
      cases h2
  · intro h
    have : l.reverse.dropWhile (cs.contains ·) = [] := tr_all.2 (fun a ha => h a (by simpa using ha))
    rw [this]
    simp
/-- A string is trimmed to nothing just if it has no other signs. -/
theorem tr_only (s : ByteArray) (cs : List UInt8) : (Lib.trimS s.data.toList cs = []) ↔ (nb s).all (fun b => decide (b ∈ cs.map UInt8.toNat)) = true := by
  rw [tr_nil, List.all_eq_true]
  unfold nb
  have hin : ∀ u : UInt8, cs.contains u = true ↔ u.toNat ∈ cs.map UInt8.toNat := fun u => by
    rw [List.contains_iff_mem]
    constructor
    · intro h; exact List.mem_map.2 ⟨u, h, rfl⟩
    · intro h
      obtain ⟨v, hv, he⟩ := List.mem_map.1 h
      rw [← UInt8.toNat_inj.1 he]; exact hv
  constructor
  · intro h b hb
    obtain ⟨u, hu, rfl⟩ := List.mem_map.1 hb
    exact decide_eq_true ((hin u).1 (h u hu))
  · intro h u hu
    exact (hin u).2 (of_decide_eq_true (h _ (List.mem_map.2 ⟨u, hu, rfl⟩)))

/-! Keys. -/
def keySigns : List Nat := [97, 98, 99, 100, 101, 102, 103, 104, 105, 106, 107, 108, 109, 110, 111, 112, 113, 114, 115, 116, 117, 118, 119, 120, 121, 122, 48, 49, 50, 51, 52, 53, 54, 55, 56, 57, 45, 95]
def keyOk (l : List Nat) : Bool := decide (1 ≤ l.length) && decide (l.length ≤ 40) && decide (97 ≤ l.getD 0 0) && decide (l.getD 0 0 ≤ 122) && l.all (fun b => decide (b ∈ keySigns))
set_option maxRecDepth 100000 in
theorem trimKey_any (s : ByteArray) (w : World) (hs : s.size ≤ 1000000) : Calls Tryz.prog 84 #[.string s, .string ⟨#[97, 98, 99, 100, 101, 102, 103, 104, 105, 106, 107, 108, 109, 110, 111, 112, 113, 114, 115, 116, 117, 118, 119, 120, 121, 122, 48, 49, 50, 51, 52, 53, 54, 55, 56, 57, 45, 95]⟩] w
    (RetV (.string ⟨(Lib.trimS s.data.toList [97, 98, 99, 100, 101, 102, 103, 104, 105, 106, 107, 108, 109, 110, 111, 112, 113, 114, 115, 116, 117, 118, 119, 120, 121, 122, 48, 49, 50, 51, 52, 53, 54, 55, 56, 57, 45, 95]).toArray⟩) w) := by
  refine (Any.strings_Trim_laid Tryz.lays160 (by kernel_rfl) s ⟨#[97, 98, 99, 100, 101, 102, 103, 104, 105, 106, 107, 108, 109, 110, 111, 112, 113, 114, 115, 116, 117, 118, 119, 120, 121, 122, 48, 49, 50, 51, 52, 53, 54, 55, 56, 57, 45, 95]⟩ w (by omega) (by decide) (ascii_of_all (by decide))).mono ?_
  rintro e w' ⟨rfl, hb⟩
  exact ⟨rfl, gr_below hb none⟩
set_option maxHeartbeats 2000000 in
set_option maxRecDepth 100000 in
theorem isKey_any (s : ByteArray) (w : World) (hs : s.size ≤ 1000000) : Calls Tryz.prog 56 #[.string s] w (RetV (.bool (keyOk (nb s))) w) := by
  have hlen := nb_len s
  by_cases h1 : 1 ≤ s.size
  · have q1 : decide ((1 : Int) ≤ (s.size : Int)) = true := decide_eq_true (by omega)
    by_cases h2 : s.size ≤ 40
    · have q2 : decide ((s.size : Int) ≤ 40) = true := decide_eq_true (by omega)
      obtain ⟨b, hb⟩ : ∃ b, s[0].toNat = b := ⟨_, rfl⟩
      have hb0 : (nb s).getD 0 0 = b := by rw [← nb_get (by omega), hb]
      have HD := Lib.hid (show keyOk (nb s) = (decide (97 ≤ b) && decide (b ≤ 122) && (nb s).all (fun b => decide (b ∈ keySigns))) by
        unfold keyOk; rw [hlen, decide_eq_true h1, decide_eq_true h2, hb0]; simp only [Bool.true_and])
      clear hlen hb0
      by_cases h3 : 97 ≤ b
      · have q3 : decide ((97 : Int) ≤ (b : Int)) = true := decide_eq_true (by omega)
        by_cases h4 : b ≤ 122
        · have q4 : decide ((b : Int) ≤ 122) = true := decide_eq_true (by omega)
          obtain ⟨u, hu⟩ : ∃ u : ByteArray, (⟨(Lib.trimS s.data.toList [97, 98, 99, 100, 101, 102, 103, 104, 105, 106, 107, 108, 109, 110, 111, 112, 113, 114, 115, 116, 117, 118, 119, 120, 121, 122, 48, 49, 50, 51, 52, 53, 54, 55, 56, 57, 45, 95]).toArray⟩ : ByteArray) = u := ⟨_, rfl⟩
          have HU := Lib.hid hu
          obtain ⟨B, hB⟩ : ∃ B, (nb s).all (fun b => decide (b ∈ keySigns)) = B := ⟨_, rfl⟩
          have HB := Lib.hid (show keyOk (nb s) = B by rw [HD.out, decide_eq_true h3, decide_eq_true h4, hB]; rfl)
          have hul : u.toList = Lib.trimS s.data.toList [97, 98, 99, 100, 101, 102, 103, 104, 105, 106, 107, 108, 109, 110, 111, 112, 113, 114, 115, 116, 117, 118, 119, 120, 121, 122, 48, 49, 50, 51, 52, 53, 54, 55, 56, 57, 45, 95] := by rw [← hu]; exact ByteArray.toList_mk _
          cases B
          · have q3 : ¬ u.toList = [] := fun h => by
              rw [hul, tr_only] at h
              have : (nb s).all (fun b => decide (b ∈ keySigns)) = true := h
              rw [hB] at this; cases this
            have q4 : (u.toList == []) = false := by rw [beq_eq_false_iff_ne]; exact q3
            have q5 : u.toList.isEmpty = false := by rw [List.isEmpty_eq_false_iff]; exact q3
            clear hu hB hul q3
            go_enter Tryz.func56, Tryz.ntmps56
            go_wp2_with (first
              | (go_at_call 84; refine (trimKey_any s _ hs).mono ?_; rintro e w' ⟨rfl, hg⟩; rw [HU.out]; have HG := Lib.hid hg; clear hg)
              | fail)
            go_ret
            exact ⟨by rw [HB.out]; rfl, HG.out⟩
          · have q3 : u.toList = [] := by rw [hul, tr_only]; exact hB
            clear hu hB hul
            go_enter Tryz.func56, Tryz.ntmps56
            go_wp2_with (first
              | (go_at_call 84; refine (trimKey_any s _ hs).mono ?_; rintro e w' ⟨rfl, hg⟩; rw [HU.out]; have HG := Lib.hid hg; clear hg)
              | fail)
            go_ret
            exact ⟨by rw [HB.out]; rfl, HG.out⟩
        · have q4 : decide ((b : Int) ≤ 122) = false := decide_eq_false (by omega)
          have HB := Lib.hid (show keyOk (nb s) = false by rw [HD.out, decide_eq_false h4]; simp)
          go_enter Tryz.func56, Tryz.ntmps56
          go_wp2_with fail
          go_ret
          exact ⟨by rw [HB.out]; rfl, gr_refl _ _⟩
      · have q3 : decide ((97 : Int) ≤ (b : Int)) = false := decide_eq_false (by omega)
        have HB := Lib.hid (show keyOk (nb s) = false by rw [HD.out, decide_eq_false h3]; simp)
        go_enter Tryz.func56, Tryz.ntmps56
        go_wp2_with fail
        go_ret
        exact ⟨by rw [HB.out]; rfl, gr_refl _ _⟩
    · have q2 : decide ((s.size : Int) ≤ 40) = false := decide_eq_false (by omega)
      have HB := Lib.hid (show keyOk (nb s) = false by unfold keyOk; rw [hlen, decide_eq_false h2]; simp)
      clear hlen
      go_enter Tryz.func56, Tryz.ntmps56
      go_wp2_with fail
      go_ret
      exact ⟨by rw [HB.out]; rfl, gr_refl _ _⟩
  · have q1 : decide ((1 : Int) ≤ (s.size : Int)) = false := decide_eq_false (by omega)
    have HB := Lib.hid (show keyOk (nb s) = false by unfold keyOk; rw [hlen, decide_eq_false h1]; simp)
    clear hlen
    go_enter Tryz.func56, Tryz.ntmps56
    go_wp2_with fail
    go_ret
    exact ⟨by rw [HB.out]; rfl, gr_refl _ _⟩
end
end Go.Proofs.YtpildcnoghojpaaGreatDoor
/- Small words that many texts share: Go's order of strings, the first error of some places, moments. Conditions: none. -/
namespace Go.Proofs.YtpildcnoghojpaaGreatDoor
section
open Go.RowKit

/-- Go's <= on strings. -/
def leS (a b : ByteArray) : Bool := Op.bytesLess a.toList b.toList || a.toList == b.toList
/-- The first of f 0, f 1, .. f (n - 1) that is not 0; 0: there is none. -/
def fstE (f : Nat → Int) : Nat → Int
  | 0 => 0
  | n + 1 => if fstE f n = 0 then f n else fstE f n
theorem fstE_zero {f : Nat → Int} {i : Nat} (h : fstE f i = 0) (h1 : f i = 0) : fstE f (i + 1) = 0 := by simp [fstE, h, h1]
theorem fstE_stop {f : Nat → Int} {i n : Nat} (h : fstE f i = 0) (h1 : f i ≠ 0) (hn : i < n) : fstE f n = f i := by
  induction n with
  | zero => omega
  | succ n ih =>
    by_cases e : i = n
    · subst e; simp [fstE, h]
    · have := ih (by omega)
      simp [fstE, this, h1]

theorem fst_ret {f : Nat → Int} {i n : Nat} {X v : Int} (h : fstE f i = 0) (e : f i = v) (hv : v ≠ 0) (hn : i < n) : (if fstE f n = 0 then X else fstE f n) = v := by
  rw [fstE_stop h (by rw [e]; exact hv) hn, e, if_neg hv]
def momB (n : Int) : Bool := inB n 0 345686399999
set_option maxHeartbeats 1000000 in
theorem isMomB_any (n : Int) (w : World) : Calls Tryz.prog 53 #[.int .i64 n] w (Same (.bool (momB n)) w) := by
  have H := Lib.hid (show momB n = (decide (0 ≤ n) && decide (n ≤ 345686399999)) from rfl)
  by_cases h1 : 0 ≤ n <;> by_cases h2 : n < 345686400000
  all_goals
    go_enter Tryz.func53, Tryz.ntmps53
    go_wp2
    go_ret
    exact ⟨by rw [H.out]; simp [h1]; omega, rfl⟩
theorem eqS_nb (s t : ByteArray) : (s.toList == t.toList) = (nb s == nb t) := by
  rw [Bool.eq_iff_iff, beq_iff_eq, beq_iff_eq, ByteArray.toList_eq, ByteArray.toList_eq]
  exact ⟨fun h => by unfold nb; rw [h], fun h => by rw [nb_inj h]⟩
theorem fstE_ev {f : Nat → Int} {n : Nat} (h : fstE f n = 0) : ∀ i, i < n → f i = 0 := by
  induction n with
  | zero => intro i hi; omega
  | succ n ih =>
    intro i hi
    unfold fstE at h
    by_cases h0 : fstE f n = 0
    · rw [if_pos h0] at h
      rcases Nat.lt_succ_iff_lt_or_eq.1 hi with h1 | h1
      · exact ih h0 i h1
      · subst h1; exact h
    · rw [if_neg h0] at h; exact absurd h h0
end
end Go.Proofs.YtpildcnoghojpaaGreatDoor
/- Queues: agents, callers and styles as they lie in memory, and what is wrong with them, in plain Lean. Conditions: none. -/
namespace Go.Proofs.YtpildcnoghojpaaGreatDoor
section
open Go.RowKit

/-- An agent, as it lies in memory. -/
structure AgV where
  key : ByteArray
  sA : Option Addr
  sn : Nat
  sc : Nat
  fr : Int
  til : Int
  pA : Option Addr
  pn : Nat
  pc : Nat
  wrap : Int
  sk : List (ByteArray × Int)
  ps : List (Int × Int)
def AgV.row (a : AgV) : List Value := [.string a.key, .slice a.sA a.sn a.sc, .int .i64 a.fr, .int .i64 a.til, .slice a.pA a.pn a.pc, .int .i64 a.wrap]
theorem AgV.row_len (a : AgV) : a.row.length = 6 := rfl
def skRow (s : ByteArray × Int) : List Value := [.string s.1, .int .i64 s.2]
theorem skRow_len (s : ByteArray × Int) : (skRow s).length = 2 := rfl
def pwRow (p : Int × Int) : List Value := [.int .i64 p.1, .int .i64 p.2]
theorem pwRow_len (p : Int × Int) : (pwRow p).length = 2 := rfl
/-- What an agent's slices read as. -/
def AgOk (w : World) (lo : Nat) (a : AgV) : Prop := (a.key.size ≤ 1000 ∧ (∀ s ∈ a.sk, s.1.size ≤ 1000) ∧ a.sn ≤ 1000 ∧ a.pn ≤ 1000) ∧ Recs skRow 2 w lo a.sA a.sn a.sc a.sk ∧ Recs pwRow 2 w lo a.pA a.pn a.pc a.ps
def Ags (w : World) (lo : Nat) (A : Option Addr) (n c : Nat) (l : List AgV) : Prop := Recs AgV.row 6 w lo A n c l ∧ ∀ a ∈ l, AgOk w lo a
theorem AgOk.grown {w w' : World} {lo : Nat} {a : AgV} (h : AgOk w lo a) {r : Option Nat} (hg : w.grownBy w' r) (hr : ∀ g, r = some g → g < lo) : AgOk w' lo a := ⟨h.1, h.2.1.grown hg hr, h.2.2.grown hg hr⟩
theorem Ags.grown {w w' : World} {lo : Nat} {A : Option Addr} {n c : Nat} {l : List AgV} (h : Ags w lo A n c l) {r : Option Nat} (hg : w.grownBy w' r) (hr : ∀ g, r = some g → g < lo) : Ags w' lo A n c l :=
  ⟨h.1.grown hg hr, fun a ha => (h.2 a ha).grown hg hr⟩

/-! What is wrong with an agent. -/
def skAt (l : List (ByteArray × Int)) (i : Nat) : Int := (l[i]?).elim 0 fun s =>
  if keyOk (nb s.1) then (if inB s.2 1 9 then (if decide (0 < i) && (l[i - 1]?).elim false (fun p => leS s.1 p.1) then 7 else 0) else 1) else 5
def pwAt (l : List (Int × Int)) (i : Nat) : Int := (l[i]?).elim 0 fun p =>
  if p.1 < 0 ∨ p.2 ≤ p.1 ∨ 345686400000 < p.2 then 1 else (if decide (0 < i) && (l[i - 1]?).elim false (fun q => decide (p.1 < q.2)) then 7 else 0)
def tmE (fr til : Int) (pn : Nat) (ps : List (Int × Int)) (wrap : Int) : Int :=
  if fr < 0 ∨ til < fr ∨ 345686400000 < til then 1 else (if 50 < pn then 2 else (if fstE (pwAt ps) pn = 0 then (if inB wrap 0 86400000 then 0 else 1) else fstE (pwAt ps) pn))
def timE (a : AgV) : Int := tmE a.fr a.til a.pn a.ps a.wrap
def agE (a : AgV) : Int := if 10 < a.sn then 2 else (if fstE (skAt a.sk) a.sn = 0 then timE a else fstE (skAt a.sk) a.sn)
def agAt (l : List AgV) (i : Nat) : Int := (l[i]?).elim 0 fun a =>
  if keyOk (nb a.key) then (if decide (0 < i) && (l[i - 1]?).elim false (fun b => leS a.key b.key) then 7 else agE a) else 5
def agsE (l : List AgV) : Int := if 100 < l.length then 2 else fstE (agAt l) l.length

/-! Styles and moments. -/
def styleE (a b c : Int) : Int := if inB a 1 4 then (if inB b 0 86400000 && inB c 0 86400000 then 0 else 1) else 4
set_option maxHeartbeats 1000000 in
theorem within_any (n lo hi : Int) (w : World) : Calls Tryz.prog 60 #[.int .i64 n, .int .i64 lo, .int .i64 hi] w (Same (.bool (inB n lo hi)) w) := by
  have H := Lib.hid (show inB n lo hi = (decide (lo ≤ n) && decide (n ≤ hi)) from rfl)
  by_cases h1 : lo ≤ n <;> by_cases h2 : n ≤ hi
  all_goals
    go_enter Tryz.func60, Tryz.ntmps60
    go_wp2
    go_ret
    exact ⟨by rw [H.out]; simp [h1, h2], rfl⟩
set_option maxHeartbeats 2000000 in
theorem checkStyle_any (a b c : Int) (w : World) : Calls Tryz.prog 30 #[.agg #[.int .i64 a, .int .i64 b, .int .i64 c]] w (RetV (.int .i64 (styleE a b c)) w) := by
  obtain ⟨B1, h1⟩ : ∃ B, inB a 1 4 = B := ⟨_, rfl⟩
  obtain ⟨B2, h2⟩ : ∃ B, inB b 0 86400000 = B := ⟨_, rfl⟩
  obtain ⟨B3, h3⟩ : ∃ B, inB c 0 86400000 = B := ⟨_, rfl⟩
  have HV := Lib.hid (show styleE a b c = if B1 then (if B2 && B3 then 0 else 1) else 4 by unfold styleE; rw [h1, h2, h3])
  have H1 := Lib.hid h1; have H2 := Lib.hid h2; have H3 := Lib.hid h3
  clear h1 h2 h3
  cases B1 <;> cases B2 <;> cases B3
  all_goals
    go_enter Tryz.func30, Tryz.ntmps30
    go_wp2_with (first
      | (go_at_call 60; refine (within_any _ _ _ _).mono ?_; rintro e w' ⟨rfl, rfl⟩; first | rw [H1.out] | rw [H2.out] | rw [H3.out] | fail)
      | fail)
    go_ret
    exact ⟨by rw [HV.out]; rfl, gr_alloc (gr_refl _ _) _⟩
end
end Go.Proofs.YtpildcnoghojpaaGreatDoor
/- Callers as they lie in memory, and what is wrong with them; who is able, who is present, in plain Lean. Conditions: none. -/
namespace Go.Proofs.YtpildcnoghojpaaGreatDoor
section
open Go.RowKit

/-- A caller, as it lies in memory. -/
structure CaV where
  id : ByteArray
  skill : ByteArray
  at_ : Int
  least : Int
  prio : Int
  pat : Int
  talk : Int
  back : Bool
def CaV.row (a : CaV) : List Value := [.string a.id, .string a.skill, .int .i64 a.at_, .int .i64 a.least, .int .i64 a.prio, .int .i64 a.pat, .int .i64 a.talk, .bool a.back]
theorem CaV.row_len (a : CaV) : a.row.length = 8 := rfl
def CaOk (a : CaV) : Prop := a.id.size ≤ 1000 ∧ a.skill.size ≤ 1000
def Cas (w : World) (lo : Nat) (A : Option Addr) (n c : Nat) (l : List CaV) : Prop := Recs CaV.row 8 w lo A n c l ∧ ∀ a ∈ l, CaOk a
theorem Cas.grown {w w' : World} {lo : Nat} {A : Option Addr} {n c : Nat} {l : List CaV} (h : Cas w lo A n c l) {r : Option Nat} (hg : w.grownBy w' r) (hr : ∀ g, r = some g → g < lo) : Cas w' lo A n c l :=
  ⟨h.1.grown hg hr, h.2⟩
/-- Are a caller's numbers in their ranges? -/
def caNum (a : CaV) : Bool := momB a.at_ && inB a.least 1 9 && inB a.prio 0 9 && inB a.pat 0 86400000 && inB a.talk 1 86400000
def caAt (l : List CaV) (i : Nat) : Int := (l[i]?).elim 0 fun a =>
  if keyOk (nb a.id) && keyOk (nb a.skill) then (if memS ((l.take i).map (·.id)) a.id then 6 else (if caNum a then (if decide (0 < i) && (l[i - 1]?).elim false (fun b => decide (a.at_ < b.at_)) then 7 else 0) else 1)) else 5
def casE (l : List CaV) : Int := if 500 < l.length then 2 else fstE (caAt l) l.length
section
variable {l : List CaV} {i : Nat} {z b : CaV}
theorem caAt_5 (h : l[i]? = some z) (h1 : (keyOk (nb z.id) && keyOk (nb z.skill)) = false) : caAt l i = 5 := by simp only [caAt, h, Option.elim, h1]; rfl
theorem caAt_6 (h : l[i]? = some z) (h1 : (keyOk (nb z.id) && keyOk (nb z.skill)) = true) (h2 : memS ((l.take i).map (·.id)) z.id = true) : caAt l i = 6 := by simp only [caAt, h, Option.elim, h1, h2]; rfl
theorem caAt_1 (h : l[i]? = some z) (h1 : (keyOk (nb z.id) && keyOk (nb z.skill)) = true) (h2 : memS ((l.take i).map (·.id)) z.id = false) (h3 : caNum z = false) : caAt l i = 1 := by simp only [caAt, h, Option.elim, h1, h2, h3]; rfl
theorem caAt_7 (h : l[i]? = some z) (h1 : (keyOk (nb z.id) && keyOk (nb z.skill)) = true) (h2 : memS ((l.take i).map (·.id)) z.id = false) (h3 : caNum z = true) (hi : 0 < i) (hb : l[i - 1]? = some b) (h4 : z.at_ < b.at_) : caAt l i = 7 := by
  simp only [caAt, h, Option.elim, h1, h2, h3, hb, decide_eq_true hi, decide_eq_true h4]; rfl
theorem caAt_e (h : l[i]? = some z) (h1 : (keyOk (nb z.id) && keyOk (nb z.skill)) = true) (h2 : memS ((l.take i).map (·.id)) z.id = false) (h3 : caNum z = true) (hb : l[i - 1]? = some b) (h4 : ¬ z.at_ < b.at_) : caAt l i = 0 := by
  simp only [caAt, h, Option.elim, h1, h2, h3, hb, decide_eq_false h4, Bool.and_false]; rfl
theorem caAt_z (h : l[i]? = some z) (h1 : (keyOk (nb z.id) && keyOk (nb z.skill)) = true) (h2 : memS ((l.take i).map (·.id)) z.id = false) (h3 : caNum z = true) (hi : ¬ 0 < i) : caAt l i = 0 := by
  simp only [caAt, h, Option.elim, h1, h2, h3, decide_eq_false hi, Bool.false_and]; rfl
end
/-! Numbers in their bounds. -/
def AgN (a : AgV) : Prop := 0 ≤ a.fr ∧ a.fr ≤ a.til ∧ a.til ≤ 345686400000 ∧ 0 ≤ a.wrap ∧ a.wrap ≤ 86400000 ∧ (∀ p ∈ a.ps, 0 ≤ p.1 ∧ p.1 ≤ p.2 ∧ p.2 ≤ 345686400000) ∧ ∀ s ∈ a.sk, 0 ≤ s.2 ∧ s.2 ≤ 9
def CaN (c : CaV) : Prop := 0 ≤ c.at_ ∧ c.at_ ≤ 345686400000 ∧ 0 ≤ c.pat ∧ c.pat ≤ 86400000 ∧ 1 ≤ c.talk ∧ c.talk ≤ 86400000 ∧ 0 ≤ c.prio ∧ c.prio ≤ 9
/-! Who is able, who is present. -/
def lvl (sk : List (ByteArray × Int)) (s : ByteArray) : Int := ((sk.find? (fun x => nb x.1 == nb s)).map (·.2)).getD 0
theorem lvl_cons (x : ByteArray × Int) (l : List (ByteArray × Int)) (s : ByteArray) : lvl (x :: l) s = if nb x.1 == nb s then x.2 else lvl l s := by
  unfold lvl
  rw [List.find?_cons]
  cases nb x.1 == nb s <;> rfl
theorem lvl_drop {l : List (ByteArray × Int)} {i : Nat} {x : ByteArray × Int} (h : l[i]? = some x) (s : ByteArray) : lvl (l.drop i) s = if nb x.1 == nb s then x.2 else lvl (l.drop (i + 1)) s := by
  obtain ⟨h1, rfl⟩ := List.getElem?_eq_some_iff.1 h
  rw [List.drop_eq_getElem_cons h1, lvl_cons]
def ableB (a : AgV) (c : CaV) : Bool := decide (c.least ≤ lvl a.sk c.skill)
def inWin (t : Int) (p : Int × Int) : Bool := decide (p.1 ≤ t) && decide (t < p.2)
def presB (a : AgV) (t : Int) : Bool := inWin t (a.fr, a.til) && !(a.ps.any (inWin t))
end
end Go.Proofs.YtpildcnoghojpaaGreatDoor
/- Slices of records that a call makes. Conditions: none. -/
namespace Go.Proofs.YtpildcnoghojpaaGreatDoor
section
open Go.RowKit

theorem reads_at (w : World) (t : TypeId) (cs : List Value) (size : Nat) (h : cs.length = size) {g : Nat} (hg : w.heap.size = g) : Reads (w.alloc (.cells cs.toArray t)) g size (some ⟨g, 0, none⟩) 1 1 cs := by
  subst hg; exact Reads.one w t cs size h
/-- A slice of records of the call's own. -/
def OwnR {α : Type} (row : α → List Value) (k : Nat) (w : World) (lo : Nat) (e : TypeId) (A : Option Addr) (n c : Nat) (l : List α) : Prop := Own w lo e k A n c (l.flatMap row) ∧ l.length = n
section
variable {α : Type} {row : α → List Value} {k : Nat} {w w' : World} {lo lo' n c : Nat} {e : TypeId} {A : Option Addr} {l : List α}
theorem OwnR.recs (h : OwnR row k w lo e A n c l) : Recs row k w lo A n c l := ⟨h.1.reads, h.2⟩
theorem OwnR.nil (w : World) (lo : Nat) (e : TypeId) : OwnR row k w lo e none 0 0 [] := ⟨Own.nil _ _ _ _, rfl⟩
theorem OwnR.kept (h : OwnR row k w lo e A n c l) {r : Option Nat} (hg : w.grownBy w' r) (hne : ∀ g, r = some g → blkOf A ≠ some g) : OwnR row k w' lo e A n c l := ⟨h.1.kept hg hne, h.2⟩
theorem OwnR.low (h : OwnR row k w lo e A n c l) {r : Option Nat} (hg : w.grownBy w' r) (hr : ∀ g, r = some g → g < lo) : OwnR row k w' lo e A n c l :=
  h.kept hg (fun g e e' => by have := hr g e; have := (h.1.lt e').1; omega)
theorem OwnR.lower (h : OwnR row k w lo e A n c l) (hl : lo' ≤ lo) : OwnR row k w lo' e A n c l := ⟨h.1.lower hl, h.2⟩
theorem OwnR.alloc (h : OwnR row k w lo e A n c l) (o : Obj) : OwnR row k (w.alloc o) lo e A n c l := ⟨h.1.alloc o, h.2⟩
theorem OwnR.app {a : α} (h : OwnR row k w lo e A n c l) {A1 : Option Addr} {c1 n1 : Nat} (hn : n1 = n + 1) (h1 : Appended w lo e k A A1 n1 c1 (l.flatMap row ++ row a) w') : OwnR row k w' lo e A1 n1 c1 (l ++ [a]) := by
  subst hn
  refine ⟨?_, by simp [h.2]⟩
  rw [List.flatMap_append]
  simpa using h1.1
end
end
end Go.Proofs.YtpildcnoghojpaaGreatDoor
/- Slices of ints: cells, appends; slices.Equal at two that read as the same list. Conditions: none. -/
namespace Go.Proofs.YtpildcnoghojpaaGreatDoor
section
open Go.RowKit
end
end Go.Proofs.YtpildcnoghojpaaGreatDoor
/- Words for the generators of agents and callers: slices of records that a call makes. Conditions: none. -/
namespace Go.Proofs.YtpildcnoghojpaaGreatDoor
section
open Go.RowKit

/-! Agents. -/
def AgBd (a : AgV) : Prop := a.key.size ≤ 1000 ∧ (∀ s ∈ a.sk, s.1.size ≤ 1000) ∧ a.sn ≤ 1000 ∧ a.pn ≤ 1000
def AgOwn (w : World) (lo : Nat) (a : AgV) : Prop := AgBd a ∧ OwnR skRow 2 w lo 83 a.sA a.sn a.sc a.sk ∧ OwnR pwRow 2 w lo 77 a.pA a.pn a.pc a.ps
def AgApart (a b : AgV) : Prop := (∀ g, blkOf a.sA = some g → blkOf b.sA ≠ some g) ∧ (∀ g, blkOf a.pA = some g → blkOf b.pA ≠ some g)
def GAgs (w : World) (lo : Nat) (A : Option Addr) (n c : Nat) (l : List AgV) : Prop :=
  OwnR AgV.row 6 w lo 81 A n c l ∧ (∀ a ∈ l, AgOwn w lo a) ∧ ∀ (i j : Nat) (a b : AgV), i ≠ j → l[i]? = some a → l[j]? = some b → AgApart a b
section
variable {w w' : World} {lo n c : Nat} {A : Option Addr} {l : List AgV}
theorem AgOwn.ok {a : AgV} (h : AgOwn w lo a) : AgOk w lo a := ⟨h.1, h.2.1.recs, h.2.2.recs⟩
theorem GAgs.ags (h : GAgs w lo A n c l) : Ags w lo A n c l := ⟨h.1.recs, fun a ha => (h.2.1 a ha).ok⟩
theorem GAgs.nil (w : World) (lo : Nat) : GAgs w lo none 0 0 [] := ⟨OwnR.nil _ _ _, (fun a ha => by cases ha), fun i j a b _ h => by simp at h⟩
theorem AgOwn.kept {a : AgV} (h : AgOwn w lo a) {r : Option Nat} (hg : w.grownBy w' r) (h1 : ∀ g, r = some g → blkOf a.sA ≠ some g) (h2 : ∀ g, r = some g → blkOf a.pA ≠ some g) : AgOwn w' lo a := ⟨h.1, h.2.1.kept hg h1, h.2.2.kept hg h2⟩
theorem AgOwn.low {a : AgV} (h : AgOwn w lo a) {r : Option Nat} (hg : w.grownBy w' r) (hr : ∀ g, r = some g → g < lo) : AgOwn w' lo a := ⟨h.1, h.2.1.low hg hr, h.2.2.low hg hr⟩
theorem AgOwn.lower {a : AgV} {lo' : Nat} (h : AgOwn w lo a) (hl : lo' ≤ lo) : AgOwn w lo' a := ⟨h.1, h.2.1.lower hl, h.2.2.lower hl⟩
theorem GAgs.low (h : GAgs w lo A n c l) {r : Option Nat} (hg : w.grownBy w' r) (hr : ∀ g, r = some g → g < lo) : GAgs w' lo A n c l := ⟨h.1.low hg hr, fun a ha => (h.2.1 a ha).low hg hr, h.2.2⟩
theorem AgOwn.other {a : AgV} (h : AgOwn w lo a) {lo' n' c' k' : Nat} {A' : Option Addr} {xs : List Value} (ho : Own w lo' 81 k' A' n' c' xs) (hg : w.grownBy w' (blkOf A')) : AgOwn w' lo a :=
  h.kept hg (fun g e => Own.ne ho h.2.1.1 (by decide) e) (fun g e => Own.ne ho h.2.2.1 (by decide) e)
/-- An agent is appended whose slices lie behind those of the others. -/
theorem GAgs.app {a : AgV} {hi : Nat} (h : GAgs w lo A n c l) (ha : AgOwn w hi a) (hlo : lo ≤ hi) (hb : ∀ b ∈ l, (∀ g, blkOf b.sA = some g → g < hi) ∧ (∀ g, blkOf b.pA = some g → g < hi)) {A1 : Option Addr} {c1 n1 : Nat} (hn : n1 = n + 1)
    (h1 : Appended w lo 81 6 A A1 n1 c1 (l.flatMap AgV.row ++ a.row) w') : GAgs w' lo A1 n1 c1 (l ++ [a]) := by
  have ap : ∀ b ∈ l, AgApart a b ∧ AgApart b a := fun b hb1 => by
    obtain ⟨q1, q2⟩ := hb b hb1
    exact ⟨⟨fun g e e' => by have := q1 g e'; have := (ha.2.1.1.lt e).1; omega, fun g e e' => by have := q2 g e'; have := (ha.2.2.1.lt e).1; omega⟩,
      ⟨fun g e e' => by have := q1 g e; have := (ha.2.1.1.lt e').1; omega, fun g e e' => by have := q2 g e; have := (ha.2.2.1.lt e').1; omega⟩⟩
  refine ⟨h.1.app hn h1, fun b hb1 => ?_, fun i j x y hne hx hy => ?_⟩
  · rcases List.mem_append.1 hb1 with hb1 | hb1
    · exact (h.2.1 b hb1).other h.1.1 h1.2.1
    · rw [List.mem_singleton.1 hb1]; exact (ha.lower hlo).other h.1.1 h1.2.1
  · rw [List.getElem?_append] at hx hy
    split at hx <;> split at hy
    · exact h.2.2 i j x y hne hx hy
    · rename_i q1 q2
      have : y = a := by
        cases hj : j - l.length with
        | zero => rw [hj] at hy; simpa using hy.symm
        | succ q => rw [hj] at hy; simp at hy
      subst this
      exact (ap x (mem_of_get hx)).2
    · rename_i q1 q2
      have : x = a := by
        cases hj : i - l.length with
        | zero => rw [hj] at hx; simpa using hx.symm
        | succ q => rw [hj] at hx; simp at hx
      subst this
      exact (ap y (mem_of_get hy)).1
    · exfalso
      rename_i q1 q2
      have h3 : i - l.length = 0 := by
        cases hj : i - l.length with
        | zero => rfl
        | succ q => rw [hj] at hx; simp at hx
      have h4 : j - l.length = 0 := by
        cases hj : j - l.length with
        | zero => rfl
        | succ q => rw [hj] at hy; simp at hy
      omega
end
/-! An agent that is being made: it lies in block ab, its slices are the call's own. -/
def AgB (w : World) (sb ab : Nat) (m : Int) (a : AgV) (wr : World) : Prop :=
  Str wr sb m ∧ w.grownBy wr (some sb) ∧ w.heap.size ≤ ab ∧ Blk wr ab 81 #[.string a.key, .slice a.sA a.sn a.sc, .int .i64 a.fr, .int .i64 a.til, .slice a.pA a.pn a.pc, .int .i64 a.wrap] ∧ AgOwn wr w.heap.size a
section
variable {w wr wx w8 : World} {sb ab : Nat} {m m' : Int} {a : AgV}
theorem AgB.skill (h : AgB w sb ab m a wr) (hsb : sb < w.heap.size) {s : ByteArray × Int} (hs : s.1.size ≤ 1000) {n1 : Nat} (hn : n1 = a.sn + 1) (hb : n1 ≤ 1000) (hsx : Str wx sb m') (hgx : wr.grownBy wx (some sb)) {A1 : Option Addr} {c1 : Nat}
    (h8 : Appended wx w.heap.size 83 2 a.sA A1 n1 c1 (a.sk.flatMap skRow ++ skRow s) w8) :
    AgB w sb ab m' { a with sA := A1, sn := n1, sc := c1, sk := a.sk ++ [s] } (w8.setCell ⟨ab, 1, none⟩ (.slice A1 n1 c1)) := by
  obtain ⟨_, hg, hp, hbk, ho⟩ := h
  have hox : AgOwn wx w.heap.size a := ho.low hgx (fun g e => by injection e with e; omega)
  have hbx := hbk.grown hgx (by simp; omega)
  have hb8 := hbx.grown h8.2.1 (Ne.symm (hox.2.1.1.blk_ne hbx (by decide)))
  have hg8 : w.grownBy w8 (some sb) := gr_own (gr_same hg hgx) hox.2.1.1 (Nat.le_refl _) h8.2.1
  have hz := hg8.size
  have hs8 : Str w8 sb m' := hsx.grown h8.2.1 (fun g e => by have := (hox.2.1.1.lt e).1; omega)
  refine ⟨hs8.setCell (by simp; omega) _, gr_setCell hg8 (.inr (by simp; omega)) _, hp, hb8.set_ 1 _, ⟨hox.1.1, fun t ht => ?_, hb, hox.1.2.2.2⟩, ?_, ?_⟩
  · rcases List.mem_append.1 ht with ht | ht
    · exact hox.1.2.1 t ht
    · rw [List.mem_singleton.1 ht]; exact hs
  · have h9 := hox.2.1.app hn h8
    exact ⟨h9.1.far (h9.1.blk_ne hb8 (by decide)) _, h9.2⟩
  · have h9 := hox.2.2.kept h8.2.1 (fun g' e => Own.ne hox.2.1.1 hox.2.2.1 (by decide) e)
    exact ⟨h9.1.far (h9.1.blk_ne hb8 (by decide)) _, h9.2⟩
theorem AgB.pause (h : AgB w sb ab m a wr) (hsb : sb < w.heap.size) {s : Int × Int} {n1 : Nat} (hn : n1 = a.pn + 1) (hb : n1 ≤ 1000) (hsx : Str wx sb m') (hgx : wr.grownBy wx (some sb)) {A1 : Option Addr} {c1 : Nat}
    (h8 : Appended wx w.heap.size 77 2 a.pA A1 n1 c1 (a.ps.flatMap pwRow ++ pwRow s) w8) :
    AgB w sb ab m' { a with pA := A1, pn := n1, pc := c1, ps := a.ps ++ [s] } (w8.setCell ⟨ab, 4, none⟩ (.slice A1 n1 c1)) := by
  obtain ⟨_, hg, hp, hbk, ho⟩ := h
  have hox : AgOwn wx w.heap.size a := ho.low hgx (fun g e => by injection e with e; omega)
  have hbx := hbk.grown hgx (by simp; omega)
  have hb8 := hbx.grown h8.2.1 (Ne.symm (hox.2.2.1.blk_ne hbx (by decide)))
  have hg8 : w.grownBy w8 (some sb) := gr_own (gr_same hg hgx) hox.2.2.1 (Nat.le_refl _) h8.2.1
  have hz := hg8.size
  have hs8 : Str w8 sb m' := hsx.grown h8.2.1 (fun g e => by have := (hox.2.2.1.lt e).1; omega)
  refine ⟨hs8.setCell (by simp; omega) _, gr_setCell hg8 (.inr (by simp; omega)) _, hp, hb8.set_ 4 _, ⟨hox.1.1, hox.1.2.1, hox.1.2.2.1, hb⟩, ?_, ?_⟩
  · have h9 := hox.2.1.kept h8.2.1 (fun g' e => Own.ne hox.2.2.1 hox.2.1.1 (by decide) e)
    exact ⟨h9.1.far (h9.1.blk_ne hb8 (by decide)) _, h9.2⟩
  · have h9 := hox.2.2.app hn h8
    exact ⟨h9.1.far (h9.1.blk_ne hb8 (by decide)) _, h9.2⟩
theorem AgB.step (h : AgB w sb ab m a wr) (hsb : sb < w.heap.size) (hsx : Str wx sb m') (hgx : wr.grownBy wx (some sb)) : AgB w sb ab m' a wx :=
  ⟨hsx, gr_same h.2.1 hgx, h.2.2.1, h.2.2.2.1.grown hgx (by have := h.2.2.1; simp; omega), h.2.2.2.2.low hgx (fun g e => by injection e with e; omega)⟩
end
/-- A block that the making of an agent's slices leaves alone. -/
theorem AgB.blk {w wr wx w8 : World} {sb ab : Nat} {m : Int} {a : AgV} (h : AgB w sb ab m a wr) {e t : TypeId} {A A1 : Option Addr} {n c n1 c1 g j : Nat} {xs ys : List Value} {cs : Array Value} {v : Value} (hb : Blk wr g t cs) (hgx : wr.grownBy wx (some sb)) (hs : g ≠ sb) (hg : g ≠ ab)
    (ho : Own wx w.heap.size e 2 A n c xs) (hne : e ≠ t) (h8 : Appended wx w.heap.size e 2 A A1 n1 c1 ys w8) : Blk (w8.setCell ⟨ab, j, none⟩ v) g t cs := by
  have hbx := hb.grown hgx (by simpa using hs)
  exact (hbx.grown h8.2.1 (Ne.symm (ho.blk_ne hbx hne))).far (by simpa using hg) v
theorem Tryz.agsT : ElemT Tryz.prog 35 81 6 88 (.agg #[.string ⟨#[]⟩, .slice none 0 0, .int .i64 0, .int .i64 0, .slice none 0 0, .int .i64 0]) := elemT_of Tryz.underlying35 (by kernel_rfl) rfl (by decide)
theorem Tryz.sksT : ElemT Tryz.prog 78 83 2 24 (.agg #[.string ⟨#[]⟩, .int .i64 0]) := elemT_of Tryz.underlying78 (by kernel_rfl) rfl (by decide)
theorem Tryz.winsT : ElemT Tryz.prog 79 77 2 16 (.agg #[.int .i64 0, .int .i64 0]) := elemT_of Tryz.underlying79 (by kernel_rfl) rfl (by decide)
theorem Tryz.casT : ElemT Tryz.prog 26 41 8 80 (.agg #[.string ⟨#[]⟩, .string ⟨#[]⟩, .int .i64 0, .int .i64 0, .int .i64 0, .int .i64 0, .int .i64 0, .bool false]) := elemT_of Tryz.underlying26 (by kernel_rfl) rfl (by decide)
end
end Go.Proofs.YtpildcnoghojpaaGreatDoor
/- Hours as they lie in memory, and what is wrong with them, in plain Lean. Conditions: none. -/
namespace Go.Proofs.YtpildcnoghojpaaGreatDoor
section
open Go.RowKit

/-- Hours, as they lie in memory: rows are (days, from, to), holidays are (day, from, to). -/
structure HrV where
  key : ByteArray
  zone : Int
  rA : Option Addr
  rn : Nat
  rc : Nat
  hA : Option Addr
  hn : Nat
  hc : Nat
  rows : List (Int × Int × Int)
  hol : List (Int × Int × Int)
def HrV.row (a : HrV) : List Value := [.string a.key, .int .i64 a.zone, .slice a.rA a.rn a.rc, .slice a.hA a.hn a.hc]
theorem HrV.row_len (a : HrV) : a.row.length = 4 := rfl
def r3Row (p : Int × Int × Int) : List Value := [.int .i64 p.1, .int .i64 p.2.1, .int .i64 p.2.2]
/-- What the slices of hours read as. -/
def HrOk (w : World) (lo : Nat) (a : HrV) : Prop := (a.key.size ≤ 1000 ∧ a.rn ≤ 1000 ∧ a.hn ≤ 1000) ∧ Recs r3Row 3 w lo a.rA a.rn a.rc a.rows ∧ Recs r3Row 3 w lo a.hA a.hn a.hc a.hol
def Hrs (w : World) (lo : Nat) (A : Option Addr) (n c : Nat) (l : List HrV) : Prop := Recs HrV.row 4 w lo A n c l ∧ ∀ a ∈ l, HrOk w lo a
theorem HrOk.grown {w w' : World} {lo : Nat} {a : HrV} (h : HrOk w lo a) {r : Option Nat} (hg : w.grownBy w' r) (hr : ∀ g, r = some g → g < lo) : HrOk w' lo a := ⟨h.1, h.2.1.grown hg hr, h.2.2.grown hg hr⟩
theorem Hrs.grown {w w' : World} {lo : Nat} {A : Option Addr} {n c : Nat} {l : List HrV} (h : Hrs w lo A n c l) {r : Option Nat} (hg : w.grownBy w' r) (hr : ∀ g, r = some g → g < lo) : Hrs w' lo A n c l :=
  ⟨h.1.grown hg hr, fun a ha => (h.2 a ha).grown hg hr⟩

/-! What is wrong with hours. -/
def timB (a b : Int) : Bool := decide (0 ≤ a) && (decide (a < b) && decide (b ≤ 1440))
def rwB (r : Int × Int × Int) : Bool := inB r.1 1 127 && timB r.2.1 r.2.2
def hoB (d : Int × Int × Int) : Bool := inB d.1 0 4000 && ((decide (d.2.1 = 0) && decide (d.2.2 = 0)) || timB d.2.1 d.2.2)
def rwAt (l : List (Int × Int × Int)) (i : Nat) : Int := (l[i]?).elim 0 fun r => if rwB r then 0 else 1
def hoAt (l : List (Int × Int × Int)) (i : Nat) : Int := (l[i]?).elim 0 fun d => if hoB d then (if decide (0 < i) && (l[i - 1]?).elim false (fun p => decide (d.1 ≤ p.1)) then 7 else 0) else 1
def htE (rn : Nat) (rows : List (Int × Int × Int)) (hn : Nat) (hol : List (Int × Int × Int)) : Int :=
  if 50 < rn then 2 else (if fstE (rwAt rows) rn = 0 then (if 200 < hn then 2 else fstE (hoAt hol) hn) else fstE (rwAt rows) rn)
def hrE (a : HrV) : Int := htE a.rn a.rows a.hn a.hol
def hrAt (l : List HrV) (i : Nat) : Int := (l[i]?).elim 0 fun a =>
  if keyOk (nb a.key) then (if decide (0 < i) && (l[i - 1]?).elim false (fun b => leS a.key b.key) then 7 else (if inB a.zone (-1440) 1440 then hrE a else 1)) else 5
def hrsE (l : List HrV) : Int := if 50 < l.length then 2 else fstE (hrAt l) l.length

section
variable {l : List (Int × Int × Int)} {i : Nat} {z b : Int × Int × Int}
theorem rwAt_0 (h : l[i]? = some z) (h1 : rwB z = true) : rwAt l i = 0 := by simp [rwAt, h, h1]
theorem hoAt_e (h : l[i]? = some z) (h1 : hoB z = true) (hb : l[i - 1]? = some b) (h3 : ¬ z.1 ≤ b.1) : hoAt l i = 0 := by simp only [hoAt, h, Option.elim, h1, hb, decide_eq_false h3, Bool.and_false]; rfl
theorem hoAt_z (h : l[i]? = some z) (h1 : hoB z = true) (hi : ¬ 0 < i) : hoAt l i = 0 := by simp only [hoAt, h, Option.elim, h1, decide_eq_false hi, Bool.false_and]; rfl
end
section
variable {l : List HrV} {i : Nat} {z b : HrV}
end
/-! Hours that are right. -/
end
end Go.Proofs.YtpildcnoghojpaaGreatDoor
/- Words for the generators of hours: slices of hours that a call makes, with their rows and holidays. Conditions: none. -/
namespace Go.Proofs.YtpildcnoghojpaaGreatDoor
section
open Go.RowKit

section
variable {w w' : World} {lo n c : Nat} {A : Option Addr} {l : List HrV}
end
/-! Hours that are being made: they lie in block ab, their slices are the call's own. -/
section
variable {w wr wx w8 : World} {sb ab : Nat} {m m' : Int} {a : HrV}
end
end
end Go.Proofs.YtpildcnoghojpaaGreatDoor
/- Contracts of within, isTime and checkTimes of package dialplan. Conditions: none. -/
namespace Go.Proofs.YtpildcnoghojpaaGreatDoor
section
open Go.RowKit

section
variable {z : Int × Int × Int}
end
end
end Go.Proofs.YtpildcnoghojpaaGreatDoor
/- Contract of the generator RightHours: its hours are right. Conditions: none. -/
namespace Go.Proofs.YtpildcnoghojpaaGreatDoor
section
open Go.RowKit

theorem fstE_nil {f : Nat → Int} : ∀ n : Nat, (∀ i, i < n → f i = 0) → fstE f n = 0
  | 0, _ => rfl
  | n + 1, h => fstE_zero (fstE_nil n (fun i hi => h i (by omega))) (h n (by omega))
/-- Rows that are right; holidays that are right, each before day d. -/
def RwR (l : List (Int × Int × Int)) : Prop := ∀ r ∈ l, rwB r = true
def HoR (l : List (Int × Int × Int)) (d : Int) : Prop := (∀ i, hoAt l i = 0) ∧ ∀ z ∈ l, z.1 < d
theorem RwR.app {l : List (Int × Int × Int)} {r : Int × Int × Int} (h : RwR l) (hr : rwB r = true) : RwR (l ++ [r]) := fun x hx => (List.mem_append.1 hx).elim (h x) (fun e => by rw [List.mem_singleton.1 e]; exact hr)
theorem HoR.nil (d : Int) : HoR [] d := ⟨fun i => rfl, fun z hz => by cases hz⟩
theorem HoR.mono {l : List (Int × Int × Int)} {d d' : Int} (h : HoR l d) (hd : d ≤ d') : HoR l d' := ⟨h.1, fun z hz => by have := h.2 z hz; omega⟩
theorem HoR.app {l : List (Int × Int × Int)} {r : Int × Int × Int} {d d' : Int} (h : HoR l d) (hr : hoB r = true) (h1 : r.1 = d) (h2 : d < d') : HoR (l ++ [r]) d' := by
  refine ⟨fun i => ?_, fun z hz => ?_⟩
  · rcases Nat.lt_trichotomy i l.length with hi | hi | hi
    · have e1 : (l ++ [r])[i]? = l[i]? := List.getElem?_append_left hi
      have e2 : (l ++ [r])[i - 1]? = l[i - 1]? := List.getElem?_append_left (by omega)
      have h0 := h.1 i
      unfold hoAt at h0 ⊢
      rw [e1, e2]; exact h0
    · subst hi
      have e1 : (l ++ [r])[l.length]? = some r := by rw [List.getElem?_append_right (Nat.le_refl _), Nat.sub_self]; rfl
      by_cases h0 : 0 < l.length
      · have hl : l.length - 1 < l.length := by omega
        have e2 : (l ++ [r])[l.length - 1]? = some l[l.length - 1] := by rw [List.getElem?_append_left hl]; exact List.getElem?_eq_getElem hl
        refine hoAt_e e1 hr e2 ?_
        have := h.2 l[l.length - 1] (List.getElem_mem hl)
        omega
      · exact hoAt_z e1 hr h0
    · have e1 : (l ++ [r])[i]? = none := List.getElem?_eq_none (by rw [List.length_append, List.length_singleton]; omega)
      unfold hoAt; rw [e1]; rfl
  · rcases List.mem_append.1 hz with hz | hz
    · have := h.2 z hz; omega
    · rw [List.mem_singleton.1 hz]; omega
/-- Hours that are right. -/
def HrR (a : HrV) : Prop := keyOk (nb a.key) = true ∧ inB a.zone (-1440) 1440 = true ∧ RwR a.rows ∧ HoR a.hol 4
theorem HrR.e {a : HrV} (h : HrR a) (h1 : a.rn ≤ 2) (h2 : a.hn ≤ 3) : hrsE [a] = 0 := by
  have hrw : fstE (rwAt a.rows) a.rn = 0 := fstE_nil _ fun i _ => by
    cases hr : a.rows[i]? with
    | none => unfold rwAt; rw [hr]; rfl
    | some z => exact rwAt_0 hr (h.2.2.1 z (List.mem_of_getElem? hr))
  have hho : fstE (hoAt a.hol) a.hn = 0 := fstE_nil _ fun i _ => h.2.2.2.1 i
  have he : hrE a = 0 := by
    unfold hrE htE
    rw [if_neg (by omega), if_pos hrw, if_neg (by omega)]
    exact hho
  unfold hrsE
  rw [if_neg (by simp)]
  refine fstE_nil _ fun i hi => ?_
  obtain rfl : i = 0 := by simpa using hi
  unfold hrAt
  show (if keyOk (nb a.key) then (if decide (0 < 0) && _ then 7 else (if inB a.zone (-1440) 1440 then hrE a else 1)) else 5) = 0
  rw [h.1, h.2.1, he]
  rfl
end
end Go.Proofs.YtpildcnoghojpaaGreatDoor
/- slices.SortFunc at structs in a row of the call's own, at any length: a sorted permutation. Over any program that bears the library's text. Conditions: the order is a strict weak one. -/
namespace Go.Proofs.YtpildcnoghojpaaGreatDoor
section
open Go.Shelf Go.RowKit Go.Lib Go.Sort

section
variable {P : Program} {ρ : Ren} {α : Type} {row : α → List Value} {k : Nat} {e : TypeId} {lo g n c : Nat} {l : List α} {w : World}
theorem flatK_toList [Inhabited α] (hk : ∀ a, (row a).length = k) (l : List α) : (flatK row k l.toArray).toList = l.flatMap row := by
  apply List.ext_getElem?
  intro t
  rw [Array.getElem?_toList]
  by_cases ht : t < l.length * k
  · have hs : t < (flatK row k l.toArray).size := by simpa using ht
    have k0 : 0 < k := by
      rcases Nat.eq_zero_or_pos k with h | h
      · subst h; simp at ht
      · exact h
    have hq : t / k < l.length := Nat.div_lt_of_lt_mul (by rw [Nat.mul_comm]; exact ht)
    have hm := Nat.mod_lt t k0
    have e := flat_get hk l (t / k) (t % k) hm
    rw [show t / k * k + t % k = t by rw [Nat.mul_comm]; exact Nat.div_add_mod t k] at e
    rw [e, Array.getElem?_eq_getElem hs, ← getElem!_pos _ t hs, get_flatK _ _ _ t (by simpa using ht), List.getElem?_eq_getElem hq]
    have h1 : (l.toArray)[t / k]! = l[t / k] := by rw [getElem!_pos _ _ (by simpa using hq)]; simp
    rw [h1]
    show _ = (row l[t / k])[t % k]?
    rw [List.getElem?_eq_getElem (by rw [hk]; exact hm), getElem!_pos _ _ (by rw [hk]; exact hm)]
  · rw [Array.getElem?_eq_none (by simpa using Nat.le_of_not_lt ht), List.getElem?_eq_none (by rw [flat_len hk]; omega)]
theorem OwnR.holds [Inhabited α] (hk : ∀ a, (row a).length = k) (h : OwnR row k w lo e (some ⟨g, 0, none⟩) n c l) : HoldsK row k w g 0 l.toArray := by
  intro j hj
  have hj' : j < n * k := by rw [← h.2]; simpa using hj
  rw [Nat.zero_add]
  refine ⟨(h.1.cell hj').trans ?_, h.1.frozen j⟩
  rw [← flatK_toList hk l, Array.getElem?_toList, Array.getElem?_eq_getElem hj, ← getElem!_pos _ j hj]
  rfl
theorem OwnR.sorted [Inhabited α] (hk : ∀ a, (row a).length = k) (h : OwnR row k w lo e (some ⟨g, 0, none⟩) n c l) {d' : Array α} (hs : d'.size = l.length) (m : Nat) (os : Array Obj) :
    OwnR row k (sortWorldK row k w g 0 m d' os) lo e (some ⟨g, 0, none⟩) n c d'.toList ∧ w.grownBy (sortWorldK row k w g 0 m d' os) (some g) := by
  have hF : (flatK row k d').toList = d'.toList.flatMap row := by
    have := flatK_toList hk d'.toList
    simpa using this
  have hsz : (flatK row k d').size = n * k := by rw [size_flatK, hs, h.2]
  have hg : ∀ b, b ≠ g → b < w.heap.size → (sortWorldK row k w g 0 m d' os).heap[b]? = w.heap[b]? := by
    intro b hb hlt
    show (w.heap.modify g _ ++ os)[b]? = _
    rw [Array.getElem?_append_left (by simpa using hlt), Array.getElem?_modify, if_neg (Ne.symm hb)]
  have hsize : (sortWorldK row k w g 0 m d' os).heap.size = w.heap.size + os.size := by
    show (w.heap.modify g _ ++ os).size = _
    simp
  refine ⟨⟨⟨by rw [flat_len hk]; simp [hs, h.2], ?_⟩, by simpa [h.2] using hs⟩, ⟨rfl, rfl, rfl, by omega, fun b hb hne => hg b (fun e => hne (by rw [e])) hb⟩⟩
  rcases h.1.2 with ⟨hv, _⟩ | ⟨g', cap, cur, hv, hlo, hh, hnc, hcm, hcs, htk⟩
  · cases hv
  · injection hv with e1 e2 e3
    injection e1 with e1
    injection e1 with e1
    subst e1; subst e3
    have hlt : g < w.heap.size := Blk.lt (t := e) (cs := cur) hh
    refine .inr ⟨g, c, putCells id 0 (flatK row k d') cur, rfl, hlo, ?_, hnc, hcm, by simp [putCells, hcs], ?_⟩
    · show (w.heap.modify g _ ++ os)[g]? = _
      rw [Array.getElem?_append_left (by simpa using hlt), Array.getElem?_modify, if_pos rfl, hh]
      rfl
    · rw [← hF]
      apply List.ext_getElem?
      intro t
      rw [List.getElem?_take]
      by_cases ht : t < n * k
      · have htc : t < cur.size := by rw [hcs]; exact Nat.lt_of_lt_of_le ht (Nat.mul_le_mul_right _ hnc)
        have hs2 : t < (flatK row k d').size := by omega
        rw [if_pos ht, Array.getElem?_toList, Array.getElem?_toList, Array.getElem?_eq_getElem hs2, ← getElem!_pos _ t hs2]
        simp only [putCells, Array.getElem?_mapIdx, Array.getElem?_eq_getElem htc, Option.map_some, Nat.zero_add, Nat.sub_zero]
        rw [if_pos ⟨Nat.zero_le _, hs2⟩]
        rfl
      · rw [if_neg ht, Array.getElem?_toList, Array.getElem?_eq_none (by omega)]
theorem permIn_perm [Inhabited α] {d d' : Array α} (h : PermIn 0 d.size d d') : d'.size = d.size ∧ d'.toList.Perm d.toList := by
  obtain ⟨h1, _, h3⟩ := h
  refine ⟨h1, ?_⟩
  rw [Array.extract_eq_self_of_le (Nat.le_refl _)] at h3
  rw [Array.extract_eq_self_of_le (by omega)] at h3
  exact h3
/-- No later one is less than an earlier one. -/
def Asc (cf : α → α → Int) (l : List α) : Prop := l.Pairwise fun x y => ¬ cf y x < 0
theorem sortedIn_asc [Inhabited α] {cf : α → α → Int} {d : Array α} (h : SortedIn (ltOf cf) 0 d.size d) : Asc cf d.toList := by
  refine List.pairwise_iff_getElem.2 fun i j hi hj hij => ?_
  have := h i j (Nat.zero_le _) hij (by simpa using hj)
  rw [getElem!_pos d j (by simpa using hj), getElem!_pos d i (by simpa using hi)] at this
  unfold ltOf at this
  have h2 := of_decide_eq_false this
  simpa using h2
theorem asc_unique {cf : α → α → Int} : ∀ {l1 l2 : List α}, l1.Perm l2 → Asc cf l1 → Asc cf l2 → (∀ x ∈ l1, ∀ y ∈ l1, ¬ cf x y < 0 → ¬ cf y x < 0 → x = y) → l1 = l2
  | [], l2, hp, _, _, _ => hp.nil_eq
  | a :: l1, [], hp, _, _, _ => absurd hp.length_eq (by simp)
  | a :: l1, b :: l2, hp, h1, h2, hd => by
    have h1' := List.pairwise_cons.1 h1
    have h2' := List.pairwise_cons.1 h2
    have ha : a ∈ b :: l2 := hp.subset List.mem_cons_self
    have hb : b ∈ a :: l1 := hp.symm.subset List.mem_cons_self
    have hab : a = b := by
      rcases List.mem_cons.1 ha with e | ha'
      · exact e
      · rcases List.mem_cons.1 hb with e | hb'
        · exact e.symm
        · exact hd a List.mem_cons_self b (List.mem_cons_of_mem _ hb') (h2'.1 a ha') (h1'.1 b hb')
    subst hab
    rw [asc_unique ((List.perm_cons a).1 hp) h1'.2 h2'.2 (fun x hx y hy => hd x (List.mem_cons_of_mem _ hx) y (List.mem_cons_of_mem _ hy))]
/-- What a sort leaves. -/
def SortedQ (cf : α → α → Int) (row : α → List Value) (k : Nat) (lo : Nat) (e : TypeId) (A : Option Addr) (n c : Nat) (l : List α) (w : World) (q : Ending) (w' : World) : Prop :=
  q = .returned (.tuple #[]) ∧ ∃ l' : List α, l'.Perm l ∧ Asc cf l' ∧ OwnR row k w' lo e A n c l' ∧ w.grownBy w' (blkOf A)
theorem own_addr {size : Nat} {A : Option Addr} {xs : List Value} (h : Own w lo e size A n c xs) : (A = none ∧ n = 0) ∨ ∃ g, A = some ⟨g, 0, none⟩ ∧ g < w.heap.size := by
  rcases h.2 with ⟨hv, h0⟩ | ⟨g, cap, cur, hv, _, hh, _⟩
  · injection hv with h1
    exact .inl ⟨h1, h0⟩
  · injection hv with h1
    exact .inr ⟨g, h1, Blk.lt (t := e) (cs := cur) hh⟩
theorem sortRec_run [Inhabited α] (L : SlLaysF0.n6 P ρ) (aE : ∀ w, (isAgg (ρ.t 24)).run P w = .ok true w) (zE : ∀ w, (Go.sizeOf (ρ.t 24)).run P w = .ok k w) (hk : ∀ x, (row x).length = k) (h1 : ∀ x, ∀ v ∈ row x, v.oneCell' = true) (cf : α → α → Int) (hO : SWO (ltOf cf)) (gf : Nat) (cb : Array Value)
    (eg : ∀ args w, (callFunc gf args).run P w = .ok (.enter gf args) w) (hcmp : ∀ (x y : α) (w1 : World), Calls P gf (#[.agg (row x).toArray, .agg (row y).toArray] ++ cb) w1 (RetQ (.int .i64 (cf x y)) w1))
    (A : Option Addr) (h : OwnR row k w lo e A n c l) (hn : n < 4611686018427387904) : Calls P (ρ.f 6) #[.slice A n c, .func (.func gf) #[] cb] w (SortedQ cf row k lo e A n c l w) := by
  rcases own_addr h.1 with ⟨rfl, rfl⟩ | ⟨g, rfl, hlt⟩
  · have hl : l = [] := List.eq_nil_of_length_eq_zero h.2
    refine (AnyF.slices_SortFunc_none L none c _ w).mono ?_
    rintro q w' ⟨rfl, rfl⟩
    exact ⟨rfl, l, .refl _, by rw [hl]; exact List.Pairwise.nil, h, gr_refl _ _⟩
  · have hl : l.toArray.size = n := by simpa using h.2
    have hc : CmpLays P gf cb row k cf g 0 l.toArray.size w := fun m os dk _ x y => (hcmp x y _).mono fun q w' h => ⟨h.1, h.2⟩
    have hcon := AnyQ.slices_SortFunc L k aE zE row hk h1 cf hO gf cb g 0 c l.toArray w eg hc (h.holds hk) hlt (by rw [hl]; exact hn)
    rw [hl] at hcon
    refine hcon.mono ?_
    rintro q w' ⟨rfl, d', m, os, hp, hs, rfl⟩
    rw [← hl] at hp hs
    obtain ⟨hsz, hpm⟩ := permIn_perm hp
    rw [← hsz] at hs
    obtain ⟨ho, hg⟩ := h.sorted hk (d' := d') (by simpa using hsz) m os
    exact ⟨rfl, d'.toList, by simpa using hpm, sortedIn_asc hs, ho, hg⟩
/-- The order is asked of right elements alone. -/
theorem sortRec_any (L : SlLaysF0.n6 P ρ) (aE : ∀ w, (isAgg (ρ.t 24)).run P w = .ok true w) (zE : ∀ w, (Go.sizeOf (ρ.t 24)).run P w = .ok k w) (hk : ∀ x, (row x).length = k) (h1 : ∀ x, ∀ v ∈ row x, v.oneCell' = true) (cf : α → α → Int) (hO : SWO (ltOf cf)) (gf : Nat) (cb : Array Value)
    (eg : ∀ args w, (callFunc gf args).run P w = .ok (.enter gf args) w) {Ok : α → Prop} (hcmp : ∀ (x y : α) (w1 : World), Ok x → Ok y → Calls P gf (#[.agg (row x).toArray, .agg (row y).toArray] ++ cb) w1 (RetQ (.int .i64 (cf x y)) w1))
    (A : Option Addr) (h : OwnR row k w lo e A n c l) (hl : ∀ x ∈ l, Ok x) (hn : n < 4611686018427387904) : Calls P (ρ.f 6) #[.slice A n c, .func (.func gf) #[] cb] w (SortedQ cf row k lo e A n c l w) := by
  rcases l.eq_nil_or_concat with hnil | ⟨l0, x0, hx0⟩
  · subst hnil
    have h0 : n = 0 := by simpa using h.2.symm
    subst h0
    refine (AnyF.slices_SortFunc_none L A c _ w).mono ?_
    rintro q w' ⟨rfl, rfl⟩
    exact ⟨rfl, [], .refl _, List.Pairwise.nil, h, gr_refl _ _⟩
  · haveI : Inhabited {x : α // Ok x} := ⟨⟨x0, hl x0 (by rw [hx0]; simp)⟩⟩
    have hv : (l.attachWith Ok hl).map Subtype.val = l := List.attachWith_map_subtype_val hl
    have hfl : ∀ m : List {x : α // Ok x}, m.flatMap (fun x => row x.1) = (m.map Subtype.val).flatMap row := fun m => by rw [List.flatMap_map]
    have h' : OwnR (fun x : {x : α // Ok x} => row x.1) k w lo e A n c (l.attachWith Ok hl) := ⟨by rw [hfl, hv]; exact h.1, by rw [List.length_attachWith]; exact h.2⟩
    have hcon := sortRec_run (P := P) (ρ := ρ) (row := fun x : {x : α // Ok x} => row x.1) L aE zE (fun x => hk x.1) (fun x => h1 x.1) (fun x y => cf x.1 y.1) ⟨fun x => hO.irrefl x.1, fun x y z => hO.trans x.1 y.1 z.1, fun x y z => hO.ntrans x.1 y.1 z.1⟩ gf cb eg (fun x y w1 => hcmp x.1 y.1 w1 x.2 y.2) A h' hn
    refine hcon.mono ?_
    rintro q w' ⟨rfl, l', hp, ha, ho, hg⟩
    refine ⟨rfl, l'.map Subtype.val, ?_, ?_, ⟨by rw [← hfl]; exact ho.1, by rw [List.length_map]; exact ho.2⟩, hg⟩
    · have := hp.map Subtype.val
      rwa [hv] at this
    · exact List.pairwise_map.2 ha
end
end
end Go.Proofs.YtpildcnoghojpaaGreatDoor
/- Tariffs and payers as they lie in memory, what is wrong with them, and what a call costs, in plain Lean. Conditions: none. -/
namespace Go.Proofs.YtpildcnoghojpaaGreatDoor
section
open Go.RowKit

def digSigns : List Nat := [48, 49, 50, 51, 52, 53, 54, 55, 56, 57]
/-- Has a string digits alone? -/
def digB (l : List Nat) : Bool := l.all (fun b => decide (b ∈ digSigns))
/-- What stands behind a plus; none: there is no plus. -/
def plusOf : List Nat → Option (List Nat)
  | 43 :: l => some l
  | _ => none
def pfOk (l : List Nat) : Bool := decide (l = []) || (plusOf l).elim false (fun d => decide (d.length ≤ 15) && digB d)
def phOk (l : List Nat) : Bool := (plusOf l).elim false (fun d => decide (4 ≤ d.length) && decide (d.length ≤ 15) && digB d && decide (d.getD 0 0 ≠ 48))

/-- A class. -/
structure ClV where
  pre : ByteArray
  name : ByteArray
  setup : Int
  first : Int
  step : Int
  rate : Int
def ClV.row (c : ClV) : List Value := [.string c.pre, .string c.name, .int .i64 c.setup, .int .i64 c.first, .int .i64 c.step, .int .i64 c.rate]
theorem ClV.row_len (c : ClV) : c.row.length = 6 := rfl
def ClOk (c : ClV) : Prop := c.pre.size ≤ 1000 ∧ c.name.size ≤ 1000
/-- A tariff, as it lies in memory. -/
structure TfV where
  cA : Option Addr
  cn : Nat
  cc : Nat
  free : Int
  iA : Option Addr
  en : Nat
  ic : Nat
  cl : List ClV
  ins : List ByteArray
def TfV.row (t : TfV) : List Value := [.slice t.cA t.cn t.cc, .int .i64 t.free, .slice t.iA t.en t.ic]
def TfOk (w : World) (lo : Nat) (t : TfV) : Prop := ((∀ c ∈ t.cl, ClOk c) ∧ (∀ s ∈ t.ins, s.size ≤ 1000) ∧ t.cn ≤ 1000 ∧ t.en ≤ 1000) ∧ Recs ClV.row 6 w lo t.cA t.cn t.cc t.cl ∧ Recs srow 1 w lo t.iA t.en t.ic t.ins
theorem TfOk.grown {w w' : World} {lo : Nat} {t : TfV} (h : TfOk w lo t) {r : Option Nat} (hg : w.grownBy w' r) (hr : ∀ g, r = some g → g < lo) : TfOk w' lo t := ⟨h.1, h.2.1.grown hg hr, h.2.2.grown hg hr⟩
/-- A payer, as it lies in memory. -/
structure PyV where
  key : ByteArray
  nA : Option Addr
  nn : Nat
  nc : Nat
  nums : List ByteArray
def PyV.row (p : PyV) : List Value := [.string p.key, .slice p.nA p.nn p.nc]
theorem PyV.row_len (p : PyV) : p.row.length = 2 := rfl
def PyOk (w : World) (lo : Nat) (p : PyV) : Prop := (p.key.size ≤ 1000 ∧ (∀ s ∈ p.nums, s.size ≤ 1000) ∧ p.nn ≤ 1000) ∧ Recs srow 1 w lo p.nA p.nn p.nc p.nums
def Pys (w : World) (lo : Nat) (A : Option Addr) (n c : Nat) (l : List PyV) : Prop := Recs PyV.row 2 w lo A n c l ∧ ∀ p ∈ l, PyOk w lo p
theorem PyOk.grown {w w' : World} {lo : Nat} {p : PyV} (h : PyOk w lo p) {r : Option Nat} (hg : w.grownBy w' r) (hr : ∀ g, r = some g → g < lo) : PyOk w' lo p := ⟨h.1, h.2.grown hg hr⟩
theorem Pys.grown {w w' : World} {lo : Nat} {A : Option Addr} {n c : Nat} {l : List PyV} (h : Pys w lo A n c l) {r : Option Nat} (hg : w.grownBy w' r) (hr : ∀ g, r = some g → g < lo) : Pys w' lo A n c l :=
  ⟨h.1.grown hg hr, fun p hp => (h.2 p hp).grown hg hr⟩

/-! What is wrong with a tariff. -/
def clNum (c : ClV) : Bool := inB c.setup 0 1000000 && inB c.rate 0 1000000 && inB c.first 0 86400000 && inB c.step 1 86400000
def clAt (l : List ClV) (i : Nat) : Int := (l[i]?).elim 0 fun c =>
  if pfOk (nb c.pre) then (if keyOk (nb c.name) then (if clNum c then (if decide (0 < i) && (l[i - 1]?).elim false (fun b => leS c.pre b.pre) then 7 else 0) else 1) else 5) else 3
def keyAt (l : List ByteArray) (i : Nat) : Int := (l[i]?).elim 0 fun s =>
  if keyOk (nb s) then (if decide (0 < i) && (l[i - 1]?).elim false (fun b => leS s b) then 7 else 0) else 5
def tarE (t : TfV) : Int :=
  if 200 < t.cn then 2 else if fstE (clAt t.cl) t.cn = 0 then (if inB t.free 0 2592000000 then (if 200 < t.en then 2 else fstE (keyAt t.ins) t.en) else 1) else fstE (clAt t.cl) t.cn
section
variable {l : List ClV} {i : Nat} {z b : ClV}
theorem clAt_3 (h : l[i]? = some z) (h1 : pfOk (nb z.pre) = false) : clAt l i = 3 := by simp only [clAt, h, Option.elim, h1]; rfl
theorem clAt_5 (h : l[i]? = some z) (h1 : pfOk (nb z.pre) = true) (h2 : keyOk (nb z.name) = false) : clAt l i = 5 := by simp only [clAt, h, Option.elim, h1, h2]; rfl
theorem clAt_1 (h : l[i]? = some z) (h1 : pfOk (nb z.pre) = true) (h2 : keyOk (nb z.name) = true) (h3 : clNum z = false) : clAt l i = 1 := by simp only [clAt, h, Option.elim, h1, h2, h3]; rfl
theorem clAt_7 (h : l[i]? = some z) (h1 : pfOk (nb z.pre) = true) (h2 : keyOk (nb z.name) = true) (h3 : clNum z = true) (hi : 0 < i) (hb : l[i - 1]? = some b) (h4 : leS z.pre b.pre = true) : clAt l i = 7 := by
  simp only [clAt, h, Option.elim, h1, h2, h3, hb, decide_eq_true hi, h4]; rfl
theorem clAt_e (h : l[i]? = some z) (h1 : pfOk (nb z.pre) = true) (h2 : keyOk (nb z.name) = true) (h3 : clNum z = true) (hb : l[i - 1]? = some b) (h4 : leS z.pre b.pre = false) : clAt l i = 0 := by
  simp only [clAt, h, Option.elim, h1, h2, h3, hb, h4, Bool.and_false]; rfl
theorem clAt_z (h : l[i]? = some z) (h1 : pfOk (nb z.pre) = true) (h2 : keyOk (nb z.name) = true) (h3 : clNum z = true) (hi : ¬ 0 < i) : clAt l i = 0 := by
  simp only [clAt, h, Option.elim, h1, h2, h3, decide_eq_false hi, Bool.false_and]; rfl
end
section
variable {l : List ByteArray} {i : Nat} {z b : ByteArray}
theorem keyAt_5 (h : l[i]? = some z) (h2 : keyOk (nb z) = false) : keyAt l i = 5 := by simp only [keyAt, h, Option.elim, h2]; rfl
theorem keyAt_7 (h : l[i]? = some z) (h2 : keyOk (nb z) = true) (hi : 0 < i) (hb : l[i - 1]? = some b) (h4 : leS z b = true) : keyAt l i = 7 := by
  simp only [keyAt, h, Option.elim, h2, hb, decide_eq_true hi, h4]; rfl
theorem keyAt_e (h : l[i]? = some z) (h2 : keyOk (nb z) = true) (hb : l[i - 1]? = some b) (h4 : leS z b = false) : keyAt l i = 0 := by
  simp only [keyAt, h, Option.elim, h2, hb, h4, Bool.and_false]; rfl
theorem keyAt_z (h : l[i]? = some z) (h2 : keyOk (nb z) = true) (hi : ¬ 0 < i) : keyAt l i = 0 := by
  simp only [keyAt, h, Option.elim, h2, decide_eq_false hi, Bool.false_and]; rfl
end

/-! What is wrong with payers. -/
def numAt (had ns : List ByteArray) (j : Nat) : Int := (ns[j]?).elim 0 fun s => if phOk (nb s) then (if memS (had ++ ns.take j) s then 6 else 0) else 3
def hadN (l : List PyV) (i : Nat) : List ByteArray := (l.take i).flatMap (·.nums)
def payAt (l : List PyV) (i : Nat) : Int := (l[i]?).elim 0 fun p =>
  if keyOk (nb p.key) then (if decide (0 < i) && (l[i - 1]?).elim false (fun b => leS p.key b.key) then 7 else (if 500 < p.nn then 2 else fstE (numAt (hadN l i) p.nums) p.nn)) else 5
def pysE (l : List PyV) : Int := if 500 < l.length then 2 else fstE (payAt l) l.length
theorem hadN_succ {l : List PyV} {i : Nat} {p : PyV} (h : l[i]? = some p) : hadN l (i + 1) = hadN l i ++ p.nums := by
  unfold hadN; rw [take_snoc' h, List.flatMap_append]; simp
section
variable {had ns : List ByteArray} {j : Nat} {s : ByteArray}
theorem numAt_3 (h : ns[j]? = some s) (h1 : phOk (nb s) = false) : numAt had ns j = 3 := by simp only [numAt, h, Option.elim, h1]; rfl
theorem numAt_6 (h : ns[j]? = some s) (h1 : phOk (nb s) = true) (h2 : memS (had ++ ns.take j) s = true) : numAt had ns j = 6 := by simp only [numAt, h, Option.elim, h1, h2]; rfl
theorem numAt_z (h : ns[j]? = some s) (h1 : phOk (nb s) = true) (h2 : memS (had ++ ns.take j) s = false) : numAt had ns j = 0 := by simp only [numAt, h, Option.elim, h1, h2]; rfl
end
section
variable {l : List PyV} {i : Nat} {z b : PyV}
theorem payAt_5 (h : l[i]? = some z) (h1 : keyOk (nb z.key) = false) : payAt l i = 5 := by simp only [payAt, h, Option.elim, h1]; rfl
theorem payAt_7 (h : l[i]? = some z) (h1 : keyOk (nb z.key) = true) (hi : 0 < i) (hb : l[i - 1]? = some b) (h3 : leS z.key b.key = true) : payAt l i = 7 := by simp only [payAt, h, Option.elim, h1, hb, h3, decide_eq_true hi]; rfl
/-- The key ahead of a place; none: the empty string. -/
def lastP (l : List PyV) (k : Nat) : ByteArray := if k = 0 then ⟨#[]⟩ else (l[k - 1]?).elim ⟨#[]⟩ (·.key)
theorem keyP_pos {s : ByteArray} (h : keyOk (nb s) = true) : s.toList ≠ [] := by
  intro e
  have : nb s = [] := by unfold nb; rw [← ByteArray.toList_eq, e]; rfl
  rw [this] at h
  exact absurd h (by decide)
theorem leS_nil {s : ByteArray} (h : s.toList ≠ []) : leS s ⟨#[]⟩ = false := by
  unfold leS
  have e : (⟨#[]⟩ : ByteArray).toList = [] := by rw [ByteArray.toList_eq]
  rw [e]
  cases hs : s.toList with
  | nil => exact absurd hs h
  | cons a l => rfl
theorem payAt_last (h : l[i]? = some z) (h1 : keyOk (nb z.key) = true) : payAt l i = if leS z.key (lastP l i) then 7 else (if 500 < z.nn then 2 else fstE (numAt (hadN l i) z.nums) z.nn) := by
  simp only [payAt, h, Option.elim, h1, if_true]
  by_cases hi : 0 < i
  · have hl := (List.getElem?_eq_some_iff.1 h).1
    obtain ⟨b, hb⟩ : ∃ b, l[i - 1]? = some b := ⟨_, List.getElem?_eq_getElem (by omega)⟩
    have e : lastP l i = b.key := by unfold lastP; rw [if_neg (by omega), hb]; rfl
    simp only [hb, e, decide_eq_true hi, Bool.true_and]
  · have e : lastP l i = ⟨#[]⟩ := by unfold lastP; rw [if_pos (by omega)]
    rw [decide_eq_false hi, e, leS_nil (keyP_pos h1)]
    simp
end

/-! Classes, prices, payers. -/
def clsAt (l : List ClV) (s : List Nat) : Option ClV := l.find? (fun c => nb c.pre == s)
/-- The class of the longest prefix of at most k bytes. -/
def clsTo (l : List ClV) (s : List Nat) : Nat → Option ClV
  | 0 => clsAt l []
  | k + 1 => (clsAt l (s.take (k + 1))).or (clsTo l s k)
def clsOf (l : List ClV) (s : List Nat) : Option ClV := clsTo l s s.length
def priceOf (c : ClV) (talk : Int) : Int := if talk = 0 then 0 else c.setup + c.rate * ((max 0 (talk - c.first) + c.step - 1) / c.step)
def payerOf (l : List PyV) (s : List Nat) : Option PyV := l.find? (fun p => p.nums.any (fun x => nb x == s))
theorem clsTo_hit {l : List ClV} {s : List Nat} {k : Nat} {c : ClV} (h : clsAt l (s.take k) = some c) : clsTo l s k = some c := by
  cases k with
  | zero => rw [List.take_zero] at h; exact h
  | succ k => unfold clsTo; rw [h]; rfl
theorem clsTo_miss {l : List ClV} {s : List Nat} {k : Nat} (h : clsAt l (s.take (k + 1)) = none) : clsTo l s (k + 1) = clsTo l s k := by
  show (clsAt l (s.take (k + 1))).or (clsTo l s k) = _
  rw [h]; rfl
end
end Go.Proofs.YtpildcnoghojpaaGreatDoor
/- Tariffs and payers: plain laws: right classes stand in their order, prices agree, right payers have each number once. Conditions: none. -/
namespace Go.Proofs.YtpildcnoghojpaaGreatDoor
section

theorem fstE_all {f : Nat → Int} {n : Nat} (h : fstE f n = 0) : ∀ i, i < n → f i = 0 := by
  induction n with
  | zero => intro i hi; omega
  | succ n ih =>
    intro i hi
    unfold fstE at h
    by_cases h0 : fstE f n = 0
    · rw [if_pos h0] at h
      rcases Nat.lt_succ_iff_lt_or_eq.1 hi with h1 | h1
      · exact ih h0 i h1
      · subst h1; exact h
    · rw [if_neg h0] at h; exact absurd h h0

/-! Classes in their order. -/
def Srt (l : List ClV) : Prop := ∀ (i j : Nat) (a b : ClV), i < j → l[i]? = some a → l[j]? = some b → cmpS a.pre b.pre < 0
theorem srt_of {l : List ClV} (h : ∀ (i : Nat) (a b : ClV), l[i]? = some a → l[i + 1]? = some b → cmpS a.pre b.pre < 0) : Srt l := by
  intro i j a b hij ha hb
  induction j generalizing b with
  | zero => omega
  | succ j ih =>
    by_cases e : i = j
    · subst e; exact h i a b ha hb
    · have hj : j + 1 < l.length := (List.getElem?_eq_some_iff.1 hb).1
      have hc : l[j]? = some l[j] := List.getElem?_eq_getElem (by omega)
      exact cmpS_trans (ih l[j] (by omega) hc) (h j _ b hc hb)
theorem clAt_right {l : List ClV} {i : Nat} {c : ClV} (h : l[i]? = some c) (h0 : clAt l i = 0) : pfOk (nb c.pre) = true ∧ keyOk (nb c.name) = true ∧ clNum c = true ∧ ∀ b, 0 < i → l[i - 1]? = some b → leS c.pre b.pre = false := by
  cases h1 : pfOk (nb c.pre)
  · rw [clAt_3 h h1] at h0; exact absurd h0 (by decide)
  · cases h2 : keyOk (nb c.name)
    · rw [clAt_5 h h1 h2] at h0; exact absurd h0 (by decide)
    · cases h3 : clNum c
      · rw [clAt_1 h h1 h2 h3] at h0; exact absurd h0 (by decide)
      · refine ⟨rfl, rfl, rfl, fun b hi hb => ?_⟩
        cases h4 : leS c.pre b.pre
        · rfl
        · rw [clAt_7 h h1 h2 h3 hi hb h4] at h0; exact absurd h0 (by decide)
theorem tar_right {t : TfV} (hc : t.cl.length = t.cn) (h : tarE t = 0) : Srt t.cl ∧ ∀ c ∈ t.cl, clNum c = true := by
  unfold tarE at h
  by_cases h1 : 200 < t.cn
  · rw [if_pos h1] at h; exact absurd h (by decide)
  · rw [if_neg h1] at h
    by_cases h2 : fstE (clAt t.cl) t.cn = 0
    · have hall := fstE_all h2
      refine ⟨srt_of fun i a b ha hb => ?_, fun c hc2 => ?_⟩
      · have hl := (List.getElem?_eq_some_iff.1 hb).1
        obtain ⟨_, _, _, q⟩ := clAt_right hb (hall (i + 1) (by omega))
        have := q a (by omega) (by rw [Nat.add_sub_cancel]; exact ha)
        unfold leS at this
        rw [leS_cmp, decide_eq_false_iff_not] at this
        have e := cmpS_neg a.pre b.pre
        omega
      · obtain ⟨i, hi⟩ := List.mem_iff_getElem?.1 hc2
        have hl := (List.getElem?_eq_some_iff.1 hi).1
        exact (clAt_right hi (hall i (by omega))).2.2.1
    · rw [if_neg h2] at h; exact absurd h h2
theorem clNum_bd {c : ClV} (h : clNum c = true) : (0 ≤ c.setup ∧ c.setup ≤ 1000000) ∧ (0 ≤ c.rate ∧ c.rate ≤ 1000000) ∧ (0 ≤ c.first ∧ c.first ≤ 86400000) ∧ 1 ≤ c.step ∧ c.step ≤ 86400000 := by
  unfold clNum inB at h
  simp only [Bool.and_eq_true, decide_eq_true_eq] at h
  omega
/-- What a search finds in classes that stand in their order. -/
def Found (l : List ClV) (s : ByteArray) (i : Nat) (f : Bool) : Prop := i ≤ l.length ∧ ((f = true ∧ ∃ c, l[i]? = some c ∧ clsAt l (nb s) = some c) ∨ (f = false ∧ clsAt l (nb s) = none))
theorem found_of {l : List ClV} (hs : Srt l) {s : ByteArray} {i : Nat} (h1 : ∀ (j : Nat) (c : ClV), j < i → l[j]? = some c → cmpS c.pre s < 0) (h2 : ∀ (j : Nat) (c : ClV), i ≤ j → l[j]? = some c → ¬ cmpS c.pre s < 0) (hi : i ≤ l.length) :
    Found l s i ((l[i]?).elim false (fun c => cmpS c.pre s == 0)) := by
  refine ⟨hi, ?_⟩
  have low : ∀ (j : Nat) (c : ClV), j < i → l[j]? = some c → ¬ nb c.pre = nb s := fun j c hj hc e => by
    have := h1 j c hj hc
    rw [cmpS_zero.2 e] at this
    exact absurd this (by decide)
  cases hc : l[i]? with
  | none =>
    right
    refine ⟨rfl, ?_⟩
    unfold clsAt
    rw [List.find?_eq_none]
    intro c hm
    obtain ⟨j, hj⟩ := List.mem_iff_getElem?.1 hm
    have hjl := (List.getElem?_eq_some_iff.1 hj).1
    have hil : l.length ≤ i := List.getElem?_eq_none_iff.1 hc
    have := low j c (by omega) hj
    simpa using this
  | some c =>
    show ((cmpS c.pre s == 0) = true ∧ _) ∨ ((cmpS c.pre s == 0) = false ∧ _)
    by_cases e : cmpS c.pre s = 0
    · left
      refine ⟨by simpa using e, c, rfl, ?_⟩
      unfold clsAt
      rw [List.find?_eq_some_iff_getElem]
      obtain ⟨hl, hg⟩ := List.getElem?_eq_some_iff.1 hc
      refine ⟨by simpa using cmpS_zero.1 e, i, hl, hg, fun j hj => ?_⟩
      have := low j l[j] hj (List.getElem?_eq_getElem (by omega))
      simpa using this
    · right
      refine ⟨by simpa using e, ?_⟩
      unfold clsAt
      rw [List.find?_eq_none]
      intro c' hm
      obtain ⟨j, hj⟩ := List.mem_iff_getElem?.1 hm
      have hne : ¬ nb c'.pre = nb s := by
        rcases Nat.lt_trichotomy j i with h | h | h
        · exact low j c' h hj
        · subst h
          rw [hc] at hj
          injection hj with hj
          subst hj
          exact fun e2 => e (cmpS_zero.2 e2)
        · intro e2
          have h3 := hs i j c c' h hc hj
          rw [cmpS_eqr e2] at h3
          exact h2 i c (Nat.le_refl _) hc h3
      simpa using hne

/-! Prices. -/
def stepsOf (c : ClV) (talk : Int) : Int := if 0 < talk - c.first then (if 0 < (talk - c.first) % c.step then (talk - c.first) / c.step + 1 else (talk - c.first) / c.step) else 0
theorem steps_eq {c : ClV} (h : 1 ≤ c.step) (talk : Int) : stepsOf c talk = (max 0 (talk - c.first) + c.step - 1) / c.step := by
  unfold stepsOf
  by_cases h0 : 0 < talk - c.first
  · rw [if_pos h0]
    generalize talk - c.first = v at *
    rw [show max 0 v = v by omega]
    have hd := Int.mul_ediv_add_emod v c.step
    have hm1 := Int.emod_nonneg v (show c.step ≠ 0 by omega)
    have hm2 := Int.emod_lt_of_pos v (show 0 < c.step by omega)
    generalize v / c.step = q at *
    generalize v % c.step = r at *
    by_cases hr : 0 < r
    · rw [if_pos hr]
      symm
      rw [show v + c.step - 1 = (r - 1) + c.step * (q + 1) by rw [Int.mul_add]; omega, Int.add_mul_ediv_left _ _ (by omega), Int.ediv_eq_zero_of_lt (by omega) (by omega)]
      omega
    · rw [if_neg hr]
      symm
      rw [show v + c.step - 1 = (c.step - 1) + c.step * q by omega, Int.add_mul_ediv_left _ _ (by omega), Int.ediv_eq_zero_of_lt (by omega) (by omega)]
      omega
  · rw [if_neg h0, show max 0 (talk - c.first) = 0 by omega]
    symm
    exact Int.ediv_eq_zero_of_lt (by omega) (by omega)
theorem steps_bd {c : ClV} (h : clNum c = true) {talk : Int} (h1 : 0 ≤ talk) (h2 : talk ≤ 86400000) : 0 ≤ stepsOf c talk ∧ stepsOf c talk ≤ 86400000 := by
  obtain ⟨_, _, b3, b4, b5⟩ := clNum_bd h
  rw [steps_eq b4]
  constructor
  · exact Int.ediv_nonneg (by omega) (by omega)
  · have := Int.ediv_lt_of_lt_mul (a := max 0 (talk - c.first) + c.step - 1) (b := 86400001) (c := c.step) (by omega) (by omega)
    omega
theorem price_bd {c : ClV} (h : clNum c = true) {talk : Int} (h1 : 0 ≤ talk) (h2 : talk ≤ 86400000) : 0 ≤ c.rate * stepsOf c talk ∧ c.rate * stepsOf c talk ≤ 86400000000000 := by
  obtain ⟨_, b2, _⟩ := clNum_bd h
  obtain ⟨s1, s2⟩ := steps_bd h h1 h2
  refine ⟨Int.mul_nonneg b2.1 s1, ?_⟩
  have := Int.mul_le_mul b2.2 s2 s1 (by omega)
  omega

/-! Payers. -/
def pairsOf (l : List PyV) : List (ByteArray × ByteArray) := l.flatMap fun p => p.nums.map fun n => (n, p.key)
def lastOf (ps : List (ByteArray × ByteArray)) (k : ByteArray) : Option ByteArray := (ps.reverse.find? fun p => nb p.1 == nb k).map (·.2)
theorem lastOf_snoc (ps : List (ByteArray × ByteArray)) (n v k : ByteArray) : lastOf (ps ++ [(n, v)]) k = if nb n = nb k then some v else lastOf ps k := by
  unfold lastOf
  rw [List.reverse_append]
  show (List.find? _ ((n, v) :: ps.reverse)).map _ = _
  rw [List.find?_cons]
  by_cases e : nb n = nb k
  · rw [if_pos e]
    have : (nb (n, v).1 == nb k) = true := by simpa using e
    rw [this]; rfl
  · rw [if_neg e]
    have : (nb (n, v).1 == nb k) = false := by simpa using e
    rw [this]
def Dist (l : List ByteArray) : Prop := l.Pairwise fun a b => nb a ≠ nb b
theorem find_one (p : ByteArray × ByteArray) (ps : List (ByteArray × ByteArray)) (k : ByteArray) : (p :: ps).find? (fun p => nb p.1 == nb k) = if nb p.1 = nb k then some p else ps.find? (fun p => nb p.1 == nb k) := by
  rw [List.find?_cons]
  by_cases e : nb p.1 = nb k
  · rw [if_pos e, beq_iff_eq.2 e]
  · rw [if_neg e, beq_eq_false_iff_ne.2 e]
theorem find_rev {ps : List (ByteArray × ByteArray)} (h : Dist (ps.map (·.1))) (k : ByteArray) : ps.reverse.find? (fun p => nb p.1 == nb k) = ps.find? (fun p => nb p.1 == nb k) := by
  induction ps with
  | nil => rfl
  | cons p ps ih =>
    unfold Dist at h
    rw [List.map_cons, List.pairwise_cons] at h
    rw [List.reverse_cons, List.find?_append, ih h.2, find_one, find_one]
    by_cases e : nb p.1 = nb k
    · have e2 : ps.find? (fun p => nb p.1 == nb k) = none := by
        rw [List.find?_eq_none]
        intro q hq
        have := h.1 q.1 (List.mem_map.2 ⟨q, hq, rfl⟩)
        rw [e] at this
        simpa using fun h2 : nb q.1 = nb k => this h2.symm
      rw [e2, if_pos e, if_pos e]
      rfl
    · rw [if_neg e, if_neg e]
      exact Option.or_none
theorem memS_false {L : List ByteArray} {s : ByteArray} (h : memS L s = false) : ∀ x ∈ L, nb x ≠ nb s := by
  intro x hx
  unfold memS at h
  rw [List.any_eq_false] at h
  simpa using h x hx
theorem nums_dist {had : List ByteArray} (hd : Dist had) {ns : List ByteArray} (h : ∀ j, j < ns.length → numAt had ns j = 0) : Dist (had ++ ns) := by
  have step : ∀ k, k ≤ ns.length → Dist (had ++ ns.take k) := by
    intro k
    induction k with
    | zero => intro _; rw [List.take_zero, List.append_nil]; exact hd
    | succ k ih =>
      intro hk
      have hs : ns[k]? = some ns[k] := List.getElem?_eq_getElem (by omega)
      have h0 := h k (by omega)
      cases h1 : phOk (nb ns[k])
      · rw [numAt_3 hs h1] at h0; exact absurd h0 (by decide)
      · cases h2 : memS (had ++ ns.take k) ns[k]
        · rw [take_snoc' hs, ← List.append_assoc]
          unfold Dist
          rw [List.pairwise_append]
          refine ⟨ih (by omega), List.pairwise_singleton _ _, fun a ha b hb => ?_⟩
          rw [List.mem_singleton.1 hb]
          exact memS_false h2 a ha
        · rw [numAt_6 hs h1 h2] at h0; exact absurd h0 (by decide)
  have := step ns.length (Nat.le_refl _)
  rwa [List.take_of_length_le (Nat.le_refl _)] at this
theorem pays_dist {l : List PyV} (hn : ∀ p ∈ l, p.nums.length = p.nn) (h : pysE l = 0) : Dist (l.flatMap (·.nums)) := by
  unfold pysE at h
  by_cases h1 : 500 < l.length
  · rw [if_pos h1] at h; exact absurd h (by decide)
  · rw [if_neg h1] at h
    have hall := fstE_all h
    have step : ∀ k, k ≤ l.length → Dist (hadN l k) := by
      intro k
      induction k with
      | zero => intro _; exact List.Pairwise.nil
      | succ k ih =>
        intro hk
        have hs : l[k]? = some l[k] := List.getElem?_eq_getElem (by omega)
        rw [hadN_succ hs]
        refine nums_dist (ih (by omega)) ?_
        rw [hn _ (List.getElem_mem _)]
        have h0 := hall k (by omega)
        cases h2 : keyOk (nb l[k].key)
        · rw [payAt_5 hs h2] at h0; exact absurd h0 (by decide)
        · rw [payAt_last hs h2] at h0
          split at h0
          · exact absurd h0 (by decide)
          · split at h0
            · exact absurd h0 (by decide)
            · exact fstE_all h0
    have := step l.length (Nat.le_refl _)
    unfold hadN at this
    rwa [List.take_of_length_le (Nat.le_refl _)] at this
theorem pairs_keys (l : List PyV) : (pairsOf l).map (·.1) = l.flatMap (·.nums) := by
  unfold pairsOf
  rw [List.map_flatMap]
  congr 1
  funext p
  rw [List.map_map]
  exact List.map_id _
theorem pairs_find (l : List PyV) (k : ByteArray) : ((pairsOf l).find? (fun p => nb p.1 == nb k)).map (·.2) = (payerOf l (nb k)).map (·.key) := by
  induction l with
  | nil => rfl
  | cons p l ih =>
    have e0 : pairsOf (p :: l) = (p.nums.map fun n => (n, p.key)) ++ pairsOf l := by unfold pairsOf; rw [List.flatMap_cons]
    rw [e0, List.find?_append]
    unfold payerOf at ih ⊢
    rw [List.find?_cons, List.find?_map]
    show (((p.nums.find? (fun n => nb n == nb k)).map fun n => (n, p.key)).or _).map _ = _
    cases h : p.nums.find? (fun n => nb n == nb k) with
    | none =>
      have : p.nums.any (fun x => nb x == nb k) = false := by
        rw [List.any_eq_false]
        intro x hx
        exact List.find?_eq_none.1 h x hx
      rw [this]
      exact ih
    | some n =>
      have : p.nums.any (fun x => nb x == nb k) = true := by
        rw [List.any_eq_true]
        exact ⟨n, List.mem_of_find?_eq_some h, by have := List.find?_some h; exact this⟩
      rw [this]
      rfl
/-- Right payers: who was put last under a number is the first one who has it. -/
theorem payer_last {l : List PyV} (hn : ∀ p ∈ l, p.nums.length = p.nn) (h : pysE l = 0) (k : ByteArray) : lastOf (pairsOf l) k = (payerOf l (nb k)).map (·.key) := by
  unfold lastOf
  rw [find_rev (by rw [pairs_keys]; exact pays_dist hn h), pairs_find]
end
end Go.Proofs.YtpildcnoghojpaaGreatDoor
/- Records as they lie in memory, and what is wrong with them; what is charged, in plain Lean. Conditions: none. -/
namespace Go.Proofs.YtpildcnoghojpaaGreatDoor
section
open Go.RowKit

/-- A record. -/
structure RcV where
  id : ByteArray
  frm : ByteArray
  too : ByteArray
  at_ : Int
  ring : Int
  talk : Int
  how : Int
  car : ByteArray
def RcV.row (r : RcV) : List Value := [.string r.id, .string r.frm, .string r.too, .int .i64 r.at_, .int .i64 r.ring, .int .i64 r.talk, .int .i64 r.how, .string r.car]
theorem RcV.row_len (r : RcV) : r.row.length = 8 := rfl
/-- What is known of a record whatever its errors. -/
def RcOk (r : RcV) : Prop := r.id.size ≤ 1000 ∧ r.frm.size ≤ 1000 ∧ r.too.size ≤ 1000 ∧ r.car.size ≤ 1000 ∧ -1152921504606846976 ≤ r.at_ ∧ r.at_ ≤ 1152921504606846976
def Rcs (w : World) (lo : Nat) (A : Option Addr) (n c : Nat) (l : List RcV) : Prop := Recs RcV.row 8 w lo A n c l ∧ ∀ r ∈ l, RcOk r
theorem Rcs.grown {w w' : World} {lo : Nat} {A : Option Addr} {n c : Nat} {l : List RcV} (h : Rcs w lo A n c l) {r : Option Nat} (hg : w.grownBy w' r) (hr : ∀ g, r = some g → g < lo) : Rcs w' lo A n c l := ⟨h.1.grown hg hr, h.2⟩
/-- The same with longer strings (what is read of a text). -/
def RcOkL (r : RcV) : Prop := r.id.size ≤ 1000000 ∧ r.frm.size ≤ 1000000 ∧ r.too.size ≤ 1000000 ∧ r.car.size ≤ 1000000 ∧ -1152921504606846976 ≤ r.at_ ∧ r.at_ ≤ 1152921504606846976
theorem RcOk.l {r : RcV} (h : RcOk r) : RcOkL r := ⟨Nat.le_trans h.1 (by decide), Nat.le_trans h.2.1 (by decide), Nat.le_trans h.2.2.1 (by decide), Nat.le_trans h.2.2.2.1 (by decide), h.2.2.2.2⟩
def RcsL (w : World) (lo : Nat) (A : Option Addr) (n c : Nat) (l : List RcV) : Prop := Recs RcV.row 8 w lo A n c l ∧ ∀ r ∈ l, RcOkL r
theorem Rcs.l {w : World} {lo : Nat} {A : Option Addr} {n c : Nat} {l : List RcV} (h : Rcs w lo A n c l) : RcsL w lo A n c l := ⟨h.1, fun r hr => (h.2 r hr).l⟩
/-- The order of records. -/
def rcCmp (a b : RcV) : Int := if a.at_ = b.at_ then cmpS a.id b.id else if a.at_ < b.at_ then -1 else 1
def rcNum (r : RcV) : Bool := momB r.at_ && inB r.ring 0 86400000 && inB r.talk 0 86400000
def rcCar (r : RcV) : Bool := decide (nb r.car = []) || keyOk (nb r.car)
def rcAt (l : List RcV) (i : Nat) : Int := (l[i]?).elim 0 fun r =>
  if keyOk (nb r.id) then (if phOk (nb r.frm) && phOk (nb r.too) then (if rcNum r then (if inB r.how 1 4 then (if (r.how == 1) == decide (0 < r.talk) then (if rcCar r then
    (if decide (0 < i) && (l[i - 1]?).elim false (fun b => decide (0 ≤ rcCmp b r)) then 7 else 0) else 5) else 3) else 4) else 1) else 3) else 5
/-- Has one of the first k records an Id that an earlier one has? -/
def dupB (l : List RcV) : Nat → Bool
  | 0 => false
  | k + 1 => dupB l k || (l[k]?).elim false (fun r => memS ((l.take k).map (·.id)) r.id)
def rcsE (l : List RcV) : Int := if 3000 < l.length then 2 else if fstE (rcAt l) l.length = 0 then (if dupB l l.length then 6 else 0) else fstE (rcAt l) l.length
section
variable {l : List RcV} {i : Nat} {z b : RcV}
theorem rcAt_5 (h : l[i]? = some z) (h1 : keyOk (nb z.id) = false) : rcAt l i = 5 := by simp only [rcAt, h, Option.elim, h1]; rfl
theorem rcAt_3 (h : l[i]? = some z) (h1 : keyOk (nb z.id) = true) (h2 : (phOk (nb z.frm) && phOk (nb z.too)) = false) : rcAt l i = 3 := by simp only [rcAt, h, Option.elim, h1, h2]; rfl
theorem rcAt_1 (h : l[i]? = some z) (h1 : keyOk (nb z.id) = true) (h2 : (phOk (nb z.frm) && phOk (nb z.too)) = true) (h3 : rcNum z = false) : rcAt l i = 1 := by simp only [rcAt, h, Option.elim, h1, h2, h3]; rfl
theorem rcAt_4 (h : l[i]? = some z) (h1 : keyOk (nb z.id) = true) (h2 : (phOk (nb z.frm) && phOk (nb z.too)) = true) (h3 : rcNum z = true) (h4 : inB z.how 1 4 = false) : rcAt l i = 4 := by simp only [rcAt, h, Option.elim, h1, h2, h3, h4]; rfl
theorem rcAt_3b (h : l[i]? = some z) (h1 : keyOk (nb z.id) = true) (h2 : (phOk (nb z.frm) && phOk (nb z.too)) = true) (h3 : rcNum z = true) (h4 : inB z.how 1 4 = true) (h5 : ((z.how == 1) == decide (0 < z.talk)) = false) : rcAt l i = 3 := by
  simp only [rcAt, h, Option.elim, h1, h2, h3, h4, h5]; rfl
theorem rcAt_5b (h : l[i]? = some z) (h1 : keyOk (nb z.id) = true) (h2 : (phOk (nb z.frm) && phOk (nb z.too)) = true) (h3 : rcNum z = true) (h4 : inB z.how 1 4 = true) (h5 : ((z.how == 1) == decide (0 < z.talk)) = true) (h6 : rcCar z = false) : rcAt l i = 5 := by
  simp only [rcAt, h, Option.elim, h1, h2, h3, h4, h5, h6]; rfl
theorem rcAt_7 (h : l[i]? = some z) (h1 : keyOk (nb z.id) = true) (h2 : (phOk (nb z.frm) && phOk (nb z.too)) = true) (h3 : rcNum z = true) (h4 : inB z.how 1 4 = true) (h5 : ((z.how == 1) == decide (0 < z.talk)) = true) (h6 : rcCar z = true) (hi : 0 < i) (hb : l[i - 1]? = some b) (h7 : 0 ≤ rcCmp b z) : rcAt l i = 7 := by
  simp only [rcAt, h, Option.elim, h1, h2, h3, h4, h5, h6, hb, decide_eq_true hi, decide_eq_true h7]; rfl
theorem rcAt_e (h : l[i]? = some z) (h1 : keyOk (nb z.id) = true) (h2 : (phOk (nb z.frm) && phOk (nb z.too)) = true) (h3 : rcNum z = true) (h4 : inB z.how 1 4 = true) (h5 : ((z.how == 1) == decide (0 < z.talk)) = true) (h6 : rcCar z = true) (hb : l[i - 1]? = some b) (h7 : ¬ 0 ≤ rcCmp b z) : rcAt l i = 0 := by
  simp only [rcAt, h, Option.elim, h1, h2, h3, h4, h5, h6, hb, decide_eq_false h7, Bool.and_false]; rfl
theorem rcAt_z (h : l[i]? = some z) (h1 : keyOk (nb z.id) = true) (h2 : (phOk (nb z.frm) && phOk (nb z.too)) = true) (h3 : rcNum z = true) (h4 : inB z.how 1 4 = true) (h5 : ((z.how == 1) == decide (0 < z.talk)) = true) (h6 : rcCar z = true) (hi : ¬ 0 < i) : rcAt l i = 0 := by
  simp only [rcAt, h, Option.elim, h1, h2, h3, h4, h5, h6, decide_eq_false hi, Bool.false_and]; rfl
end
/-! What is charged. -/
/-- A charge. -/
structure ChV where
  rec_ : ByteArray
  pay : ByteArray
  cls : ByteArray
  free : Int
  cost : Int
def ChV.row (c : ChV) : List Value := [.string c.rec_, .string c.pay, .string c.cls, .int .i64 c.free, .int .i64 c.cost]
theorem ChV.row_len (c : ChV) : c.row.length = 5 := rfl
/-- Who pays for a record, and its class; none: nobody, or it was not talked in this month. -/
def paysFor (t : TfV) (p : List PyV) (month : Int) (r : RcV) : Option (ByteArray × ClV) :=
  if r.talk = 0 ∨ r.at_ / 2592000000 ≠ month then none else (payerOf p (nb r.frm)).bind fun y => (clsOf t.cl (nb r.too)).map fun c => (y.key, c)
def freeOf (t : TfV) (used : ByteArray → Int) (who : ByteArray) (c : ClV) (r : RcV) : Int := if t.ins.any (fun x => nb x == nb c.name) then min (t.free - used who) r.talk else 0
def chgOf (t : TfV) (used : ByteArray → Int) (who : ByteArray) (c : ClV) (r : RcV) : ChV := ⟨r.id, who, c.name, freeOf t used who c r, priceOf c (r.talk - freeOf t used who c r)⟩
def addU (used : ByteArray → Int) (who : ByteArray) (n : Int) (k : ByteArray) : Int := if nb who = nb k then used who + n else used k
/-- The charges of the first k records, and what was free till then. -/
def chgTo (t : TfV) (p : List PyV) (month : Int) (l : List RcV) : Nat → List (ChV × RcV) × (ByteArray → Int)
  | 0 => ([], fun _ => 0)
  | k + 1 => match l[k]? with
    | none => chgTo t p month l k
    | some r => match paysFor t p month r with
      | none => chgTo t p month l k
      | some (who, c) => ((chgTo t p month l k).1 ++ [(chgOf t (chgTo t p month l k).2 who c r, r)], addU (chgTo t p month l k).2 who (freeOf t (chgTo t p month l k).2 who c r))
section
variable {t : TfV} {p : List PyV} {month : Int} {l : List RcV} {k : Nat} {r : RcV}
theorem chgTo_skip (h : l[k]? = some r) (hp : paysFor t p month r = none) : chgTo t p month l (k + 1) = chgTo t p month l k := by
  rw [chgTo, h]; simp only [hp]
theorem chgTo_add {who : ByteArray} {c : ClV} (h : l[k]? = some r) (hp : paysFor t p month r = some (who, c)) :
    chgTo t p month l (k + 1) = ((chgTo t p month l k).1 ++ [(chgOf t (chgTo t p month l k).2 who c r, r)], addU (chgTo t p month l k).2 who (freeOf t (chgTo t p month l k).2 who c r)) := by
  rw [chgTo, h]; simp only [hp]
theorem chgTo_mem : ∀ (k : Nat) (x : ChV × RcV), x ∈ (chgTo t p month l k).1 → x.2 ∈ l ∧ x.1.rec_ = x.2.id
  | 0, x, h => by cases h
  | k + 1, x, h => by
    cases hl : l[k]? with
    | none => rw [chgTo, hl] at h; exact chgTo_mem k x h
    | some r =>
      cases hp : paysFor t p month r with
      | none => rw [chgTo_skip hl hp] at h; exact chgTo_mem k x h
      | some q =>
        obtain ⟨who, c⟩ := q
        rw [chgTo_add hl hp] at h
        rcases List.mem_append.1 h with h | h
        · exact chgTo_mem k x h
        · rw [List.mem_singleton.1 h]; exact ⟨mem_of_get hl, rfl⟩
theorem paysFor_some {who : ByteArray} {c : ClV} (h : paysFor t p month r = some (who, c)) : r.talk ≠ 0 ∧ r.at_ / 2592000000 = month ∧ (∃ y, payerOf p (nb r.frm) = some y ∧ y.key = who) ∧ clsOf t.cl (nb r.too) = some c := by
  unfold paysFor at h
  split at h
  · cases h
  · rename_i hn
    cases h1 : payerOf p (nb r.frm) with
    | none => rw [h1] at h; cases h
    | some y =>
      rw [h1] at h
      cases h2 : clsOf t.cl (nb r.too) with
      | none => rw [h2] at h; cases h
      | some c' =>
        rw [h2] at h
        simp only [Option.bind_some, Option.map_some, Option.some.injEq, Prod.mk.injEq] at h
        obtain ⟨rfl, rfl⟩ := h
        exact ⟨fun e => hn (.inl e), by
          rcases Decidable.em (r.at_ / 2592000000 = month) with e | e
          · exact e
          · exact absurd (.inr e) hn, ⟨y, rfl, rfl⟩, rfl⟩
/-- What was free stays within what is free. -/
theorem used_bd (ht : 0 ≤ t.free) (hr : ∀ r ∈ l, 0 ≤ r.talk) : ∀ (k : Nat) (w : ByteArray), 0 ≤ (chgTo t p month l k).2 w ∧ (chgTo t p month l k).2 w ≤ t.free
  | 0, w => ⟨Int.le_refl _, ht⟩
  | k + 1, w => by
    cases hl : l[k]? with
    | none => rw [chgTo, hl]; exact used_bd ht hr k w
    | some r =>
      cases hp : paysFor t p month r with
      | none => rw [chgTo_skip hl hp]; exact used_bd ht hr k w
      | some q =>
        obtain ⟨who, c⟩ := q
        rw [chgTo_add hl hp]
        show 0 ≤ addU _ _ _ w ∧ addU _ _ _ w ≤ t.free
        have h1 := used_bd ht hr k who
        have h2 := used_bd ht hr k w
        have h3 := hr r (mem_of_get hl)
        unfold addU freeOf
        split
        · split <;> omega
        · exact h2
theorem free_bd (ht : 0 ≤ t.free) (hr : ∀ r ∈ l, 0 ≤ r.talk) (k : Nat) (hl : l[k]? = some r) (who : ByteArray) (c : ClV) : 0 ≤ freeOf t (chgTo t p month l k).2 who c r ∧ freeOf t (chgTo t p month l k).2 who c r ≤ r.talk := by
  have h1 := used_bd (p := p) (month := month) ht hr k who
  have h3 := hr r (mem_of_get hl)
  unfold freeOf
  split <;> omega
end
end
end Go.Proofs.YtpildcnoghojpaaGreatDoor
/- Contracts of cmp.Compare and cmp.Or at int. Conditions: none. -/
namespace Go.Proofs.YtpildcnoghojpaaGreatDoor
section
open Go.RowKit

def cmpZ (a b : Int) : Int := if a < b then -1 else if b < a then 1 else 0
theorem cmpZ_any (a b : Int) (w : World) : Calls Tryz.prog 113 #[.int .i64 a, .int .i64 b] w (Same (.int .i64 (cmpZ a b)) w) := by
  refine (Tryz.cmp_Compare_int a b w).mono ?_
  rintro e w' ⟨rfl, rfl⟩
  exact ⟨rfl, rfl⟩
/-- The first of two numbers that is not 0. -/
def orZ (a b : Int) : Int := if a = 0 then b else a
set_option maxHeartbeats 2000000 in
theorem orZ_any (a b : Int) (g : Nat) (w : World) (hb : Blk w g 3 #[.int .i64 a, .int .i64 b]) : Calls Tryz.prog 112 #[.slice (some ⟨g, 0, none⟩) 2 2] w (Same (.int .i64 (orZ a b)) w) := by
  have c0 : w.cell? ⟨g, 0, none⟩ = some (.int .i64 a) := hb.cell 0
  have c1 : w.cell? ⟨g, 1, none⟩ = some (.int .i64 b) := hb.cell 1
  clear hb
  go_enter Tryz.func112, Tryz.ntmps112
  go_wp2_with fail
  go_loop [5, 8] (fun _ t => ∃ i : Nat, i ≤ 2 ∧ t = .int .i64 i ∧ (1 ≤ i → a = 0) ∧ (2 ≤ i → b = 0)) (fun _ t => 2 - (intOf t).toNat)
  case atStart => exact ⟨0, by omega, rfl, by omega, by omega⟩
  case round =>
    obtain ⟨i, hi, rfl, h1, h2⟩ := hrel
    have H1 := Lib.hid h1; have H2 := Lib.hid h2
    clear h1 h2
    rcases (by omega : i = 0 ∨ i = 1 ∨ i = 2) with rfl | rfl | rfl
    · by_cases hz : a = 0
      · have q : (a != 0) = false := by simp [hz]
        have HA := Lib.hid hz; clear hz
        go_wp2_with fail
        go_round
        case rel => exact ⟨1, by omega, rfl, fun _ => HA.out, fun h => by omega⟩
        case measure => simp [intOf]
      · have q : (a != 0) = true := by simpa using hz
        have HA := Lib.hid (show orZ a b = a by unfold orZ; rw [if_neg hz]); clear hz
        go_wp2_with fail
        go_ret
        exact ⟨by rw [HA.out]; rfl, rfl⟩
    · have ha := H1.out (by omega)
      have HA := Lib.hid (show orZ a b = b by unfold orZ; rw [if_pos ha])
      have HA0 := Lib.hid ha; clear ha
      by_cases hz : b = 0
      · have q : (b != 0) = false := by simp [hz]
        have HBZ := Lib.hid hz; clear hz
        go_wp2_with fail
        go_round
        case rel => exact ⟨2, by omega, rfl, fun _ => HA0.out, fun _ => HBZ.out⟩
        case measure => simp [intOf]
      · have q : (b != 0) = true := by simpa using hz
        go_wp2_with fail
        go_ret
        exact ⟨by rw [HA.out]; rfl, rfl⟩
    · have HA := Lib.hid (show orZ a b = 0 by unfold orZ; rw [if_pos (H1.out (by omega)), H2.out (by omega)])
      go_wp2_with fail
      go_ret
      exact ⟨by rw [HA.out]; rfl, rfl⟩
end
end Go.Proofs.YtpildcnoghojpaaGreatDoor
/- Contracts of the orders of records: account.compare and the document's RecordOrder. Conditions: none. -/
namespace Go.Proofs.YtpildcnoghojpaaGreatDoor
section
open Go.RowKit

theorem Tryz.rcT : StructT Tryz.prog 43 8 := ⟨_, Tryz.underlying43, rfl, by kernel_rfl⟩
/-- A record's cells. -/
theorem rcCmp_or (a b : RcV) : orZ (cmpZ a.at_ b.at_) (cmpS a.id b.id) = rcCmp a b := by
  unfold orZ cmpZ rcCmp
  by_cases h : a.at_ = b.at_
  · rw [if_pos h, if_neg (show ¬ a.at_ < b.at_ by omega), if_neg (show ¬ b.at_ < a.at_ by omega), if_pos rfl]
  · rw [if_neg h]
    by_cases h1 : a.at_ < b.at_
    · rw [if_pos h1, if_pos h1, if_neg (by decide)]
    · rw [if_neg h1, if_pos (show b.at_ < a.at_ by omega), if_neg h1, if_neg (by decide)]
set_option maxHeartbeats 2000000 in
set_option maxRecDepth 100000 in
theorem compareR_any (a b : RcV) (w : World) :
    Calls Tryz.prog 90 #[.agg #[.string a.id, .string a.frm, .string a.too, .int .i64 a.at_, .int .i64 a.ring, .int .i64 a.talk, .int .i64 a.how, .string a.car], .agg #[.string b.id, .string b.frm, .string b.too, .int .i64 b.at_, .int .i64 b.ring, .int .i64 b.talk, .int .i64 b.how, .string b.car]] w (RetV (.int .i64 (rcCmp a b)) w) := by
  have HV := Lib.hid (rcCmp_or a b)
  obtain ⟨W1, hW⟩ : ∃ W1, (w.alloc (.cells #[.string a.id, .string a.frm, .string a.too, .int .i64 a.at_, .int .i64 a.ring, .int .i64 a.talk, .int .i64 a.how, .string a.car] 43)).alloc (.cells #[.string b.id, .string b.frm, .string b.too, .int .i64 b.at_, .int .i64 b.ring, .int .i64 b.talk, .int .i64 b.how, .string b.car] 43) = W1 := ⟨_, rfl⟩
  have HA := Lib.hid (show Blk W1 w.heap.size 43 #[.string a.id, .string a.frm, .string a.too, .int .i64 a.at_, .int .i64 a.ring, .int .i64 a.talk, .int .i64 a.how, .string a.car] by rw [← hW]; exact (Blk.new _ _ _).alloc _)
  have HB := Lib.hid (show Blk W1 (w.heap.size + 1) 43 #[.string b.id, .string b.frm, .string b.too, .int .i64 b.at_, .int .i64 b.ring, .int .i64 b.talk, .int .i64 b.how, .string b.car] by
    rw [← hW]
    have h := Blk.new (w.alloc (.cells #[.string a.id, .string a.frm, .string a.too, .int .i64 a.at_, .int .i64 a.ring, .int .i64 a.talk, .int .i64 a.how, .string a.car] 43)) 43 #[.string b.id, .string b.frm, .string b.too, .int .i64 b.at_, .int .i64 b.ring, .int .i64 b.talk, .int .i64 b.how, .string b.car]
    simpa using h)
  have HG := Lib.hid (show w.grownBy W1 none by rw [← hW]; exact gr_alloc (gr_alloc (gr_refl _ _) _) _)
  have HW := Lib.hid hW; clear hW
  go_enter Tryz.func90, Tryz.ntmps90
  go_wp2_with fail
  rw [HW.out]
  refine H_begin (fun w' => W1.grownBy w' none) (by kernel_rfl) ?_
  have hHeld : W1.grownBy W1.drew none := gr_drew (gr_refl _ _)
  refine H_take (k := 0) (v := ?_) (by rfl) (by kernel_rfl) (by kernel_rfl) (by kernel_rfl) (by exact fun _ _ _ h => h) (by rfl) ?_ (by assumption) ?_
  rotate_left 1
  · intro w hSw
    (try dsimp only at hSw)
    go_simp
    (try with_reducible rfl)
  (try simp only [Act.put, List.setIfInBounds_toArray, List.set_cons_zero, List.set_cons_succ])
  refine H_take (k := 1) (v := ?_) (by rfl) (by kernel_rfl) (by kernel_rfl) (by kernel_rfl) (by exact fun _ _ _ h => h) (by rfl) ?_ (by assumption) ?_
  rotate_left 1
  · intro w' hSw
    have kc := (HA.out.grown hSw (by simp)).cell 3
    go_simp
    (try with_reducible rfl)
  (try simp only [Act.put, List.setIfInBounds_toArray, List.set_cons_zero, List.set_cons_succ])
  refine H_take (k := 2) (v := ?_) (by rfl) (by kernel_rfl) (by kernel_rfl) (by kernel_rfl) (by exact fun _ _ _ h => h) (by rfl) ?_ (by assumption) ?_
  rotate_left 1
  · intro w hSw
    (try dsimp only at hSw)
    go_simp
    (try with_reducible rfl)
  (try simp only [Act.put, List.setIfInBounds_toArray, List.set_cons_zero, List.set_cons_succ])
  refine H_take (k := 3) (v := ?_) (by rfl) (by kernel_rfl) (by kernel_rfl) (by kernel_rfl) (by exact fun _ _ _ h => h) (by rfl) ?_ (by assumption) ?_
  rotate_left 1
  · intro w' hSw
    have kc := (HB.out.grown hSw (by simp)).cell 3
    go_simp
    (try with_reducible rfl)
  (try simp only [Act.put, List.setIfInBounds_toArray, List.set_cons_zero, List.set_cons_succ])
  refine H_take (k := 5) (v := ?_) (by rfl) (by kernel_rfl) (by kernel_rfl) (by kernel_rfl) (by exact fun _ _ _ h => h) (by rfl) ?_ (by assumption) ?_
  rotate_left 1
  · intro w hSw
    (try dsimp only at hSw)
    go_simp
    (try with_reducible rfl)
  (try simp only [Act.put, List.setIfInBounds_toArray, List.set_cons_zero, List.set_cons_succ])
  refine H_take (k := 6) (v := ?_) (by rfl) (by kernel_rfl) (by kernel_rfl) (by kernel_rfl) (by exact fun _ _ _ h => h) (by rfl) ?_ (by assumption) ?_
  rotate_left 1
  · intro w' hSw
    have kc := (HA.out.grown hSw (by simp)).cell 0
    go_simp
    (try with_reducible rfl)
  (try simp only [Act.put, List.setIfInBounds_toArray, List.set_cons_zero, List.set_cons_succ])
  refine H_take (k := 7) (v := ?_) (by rfl) (by kernel_rfl) (by kernel_rfl) (by kernel_rfl) (by exact fun _ _ _ h => h) (by rfl) ?_ (by assumption) ?_
  rotate_left 1
  · intro w hSw
    (try dsimp only at hSw)
    go_simp
    (try with_reducible rfl)
  (try simp only [Act.put, List.setIfInBounds_toArray, List.set_cons_zero, List.set_cons_succ])
  refine H_take (k := 8) (v := ?_) (by rfl) (by kernel_rfl) (by kernel_rfl) (by kernel_rfl) (by exact fun _ _ _ h => h) (by rfl) ?_ (by assumption) ?_
  rotate_left 1
  · intro w' hSw
    have kc := (HB.out.grown hSw (by simp)).cell 0
    go_simp
    (try with_reducible rfl)
  (try simp only [Act.put, List.setIfInBounds_toArray, List.set_cons_zero, List.set_cons_succ])
  refine H_run (k := 4) (by rfl) (by kernel_rfl) (by rfl) (fun K hK => ?_)
  go_simp
  refine (cmpZ_any _ _ _).mono ?_
  rintro e w' ⟨rfl, rfl⟩
  go_simp
  refine hK _ _ (gr_drew (gr_refl W1 none)) ?_
  clear hK K hHeld
  have hHeld := gr_drew (gr_refl W1 none)
  refine H_run (k := 9) (by rfl) (by kernel_rfl) (by rfl) (fun K hK => ?_)
  go_simp
  refine (Tryz.strings_Compare _ _ _).mono ?_
  rintro e w' ⟨rfl, rfl⟩
  go_simp
  refine hK _ _ (gr_drew (gr_refl W1 none)) ?_
  clear hK K hHeld
  have hHeld := gr_drew (gr_refl W1 none)
  refine H_run (k := 10) (by rfl) (by kernel_rfl) (by rfl) (fun K hK => ?_)
  go_simp
  obtain ⟨W2, hW2⟩ : ∃ W2, W1.alloc (.cells #[.int .i64 (cmpZ a.at_ b.at_), .int .i64 (cmpS a.id b.id)] 3) = W2 := ⟨_, rfl⟩
  rw [show Lib.compareBytes a.id.data.toList b.id.data.toList = cmpS a.id b.id from rfl, hW2]
  have HC := Lib.hid (show Blk W2 W1.heap.size 3 #[.int .i64 (cmpZ a.at_ b.at_), .int .i64 (cmpS a.id b.id)] by rw [← hW2]; exact Blk.new _ _ _)
  have HG2 := Lib.hid (show W1.grownBy W2 none by rw [← hW2]; exact gr_alloc (gr_refl _ _) _)
  clear hW2
  refine hK _ _ (gr_drew HG2.out) ?_
  clear hK K hHeld
  have hHeld := gr_drew HG2.out
  refine H_run (k := 11) (by rfl) (by kernel_rfl) (by rfl) (fun K hK => ?_)
  go_simp
  refine (orZ_any _ _ _ _ (by first | exact HC.out | exact HC.out.drew)).mono ?_
  rintro e w' ⟨rfl, rfl⟩
  rw [HV.out]
  go_simp
  refine hK _ _ (gr_drew HG2.out) ?_
  clear hK K hHeld
  have hHeld := gr_drew HG2.out
  refine H_take (k := 12) (v := ?_) (by rfl) (by kernel_rfl) (by kernel_rfl) (by kernel_rfl) (by exact fun _ _ _ h => h) (by rfl) ?_ (by assumption) ?_
  rotate_left 1
  · intro w hSw
    (try dsimp only at hSw)
    go_simp
    (try with_reducible rfl)
  (try simp only [Act.put, List.setIfInBounds_toArray, List.set_cons_zero, List.set_cons_succ])
  refine H_done (by kernel_rfl) ?_
  go_wp2_with fail
  go_ret
  exact ⟨rfl, gr_drew (gr_same HG.out HG2.out)⟩
end
end Go.Proofs.YtpildcnoghojpaaGreatDoor
/- Contract of the document's sign. Conditions: none. -/
namespace Go.Proofs.YtpildcnoghojpaaGreatDoor
section
open Go.RowKit

end
end Go.Proofs.YtpildcnoghojpaaGreatDoor
/- Contract of the document's RecordOrder. Conditions: the records are RcOk. -/
namespace Go.Proofs.YtpildcnoghojpaaGreatDoor
section
open Go.RowKit

end
end Go.Proofs.YtpildcnoghojpaaGreatDoor
/- Records, charges, invoices: plain laws: right records have their own Ids; sums of charges. Conditions: none. -/
namespace Go.Proofs.YtpildcnoghojpaaGreatDoor
section

/-- What a right record is. -/
def RcRight (z : RcV) : Prop := keyOk (nb z.id) = true ∧ (phOk (nb z.frm) && phOk (nb z.too)) = true ∧ rcNum z = true ∧ inB z.how 1 4 = true ∧ ((z.how == 1) == decide (0 < z.talk)) = true
theorem rcAt_right {l : List RcV} {i : Nat} {z : RcV} (h : l[i]? = some z) (h0 : rcAt l i = 0) : RcRight z := by
  cases h1 : keyOk (nb z.id)
  · rw [rcAt_5 h h1] at h0; exact absurd h0 (by decide)
  · cases h2 : (phOk (nb z.frm) && phOk (nb z.too))
    · rw [rcAt_3 h h1 h2] at h0; exact absurd h0 (by decide)
    · cases h3 : rcNum z
      · rw [rcAt_1 h h1 h2 h3] at h0; exact absurd h0 (by decide)
      · cases h4 : inB z.how 1 4
        · rw [rcAt_4 h h1 h2 h3 h4] at h0; exact absurd h0 (by decide)
        · cases h5 : ((z.how == 1) == decide (0 < z.talk))
          · rw [rcAt_3b h h1 h2 h3 h4 h5] at h0; exact absurd h0 (by decide)
          · exact ⟨h1, h2, h3, h4, h5⟩
theorem RcRight.talk {z : RcV} (h : RcRight z) : 0 ≤ z.talk ∧ z.talk ≤ 86400000 ∧ (z.how = 1 ↔ 0 < z.talk) ∧ 0 ≤ z.at_ ∧ z.at_ ≤ 345686399999 ∧ 0 ≤ z.ring ∧ z.ring ≤ 86400000 := by
  obtain ⟨_, _, h3, _, h5⟩ := h
  unfold rcNum momB inB at h3
  simp only [Bool.and_eq_true, decide_eq_true_eq] at h3
  obtain ⟨⟨⟨a1, a2⟩, r1, r2⟩, t1, t2⟩ := h3
  refine ⟨t1, t2, ?_, a1, a2, r1, r2⟩
  rw [beq_iff_eq] at h5
  constructor
  · intro e
    rw [show (z.how == 1) = true from by rw [e]; rfl] at h5
    exact of_decide_eq_true h5.symm
  · intro e
    rw [decide_eq_true e, beq_iff_eq] at h5
    exact h5
theorem dup_dist {l : List RcV} : ∀ (k : Nat), k ≤ l.length → dupB l k = false → Dist ((l.take k).map (·.id))
  | 0, _, _ => by rw [List.take_zero]; exact List.Pairwise.nil
  | k + 1, hk, h => by
    have hs : l[k]? = some l[k] := List.getElem?_eq_getElem (by omega)
    unfold dupB at h
    rw [hs, Bool.or_eq_false_iff] at h
    obtain ⟨h1, h2⟩ := h
    rw [take_snoc' hs, List.map_append]
    unfold Dist
    rw [List.pairwise_append]
    refine ⟨dup_dist k (by omega) h1, List.pairwise_singleton _ _, fun a ha b hb => ?_⟩
    rw [List.mem_singleton.1 hb]
    exact memS_false h2 a ha
theorem rcs_right {l : List RcV} (h : rcsE l = 0) : l.length ≤ 3000 ∧ (∀ r ∈ l, RcRight r) ∧ Dist (l.map (·.id)) := by
  unfold rcsE at h
  by_cases h1 : 3000 < l.length
  · rw [if_pos h1] at h; exact absurd h (by decide)
  · rw [if_neg h1] at h
    by_cases h2 : fstE (rcAt l) l.length = 0
    · rw [if_pos h2] at h
      refine ⟨by omega, fun r hr => ?_, ?_⟩
      · obtain ⟨i, hi⟩ := List.mem_iff_getElem?.1 hr
        have hl := (List.getElem?_eq_some_iff.1 hi).1
        exact rcAt_right hi (fstE_all h2 i hl)
      · cases h3 : dupB l l.length
        · have := dup_dist l.length (Nat.le_refl _) h3
          rwa [List.take_of_length_le (Nat.le_refl _)] at this
        · rw [h3, if_pos rfl] at h; exact absurd h (by decide)
    · rw [if_neg h2] at h; exact absurd h h2
/-! Bounds of prices. -/
theorem priceOf_bd {c : ClV} (h : clNum c = true) {talk : Int} (h1 : 0 ≤ talk) (h2 : talk ≤ 86400000) : 0 ≤ priceOf c talk ∧ priceOf c talk ≤ 86400001000000 := by
  unfold priceOf
  obtain ⟨b1, _, b3, b4, b5⟩ := clNum_bd h
  have := price_bd h h1 h2
  rw [steps_eq b4] at this
  split
  · omega
  · omega
/-- What is known of a charge with its record. -/
def ChOk (x : ChV × RcV) : Prop := 0 ≤ x.1.free ∧ x.1.free ≤ x.2.talk ∧ 0 ≤ x.1.cost ∧ x.1.cost ≤ 86400001000000
section
variable {t : TfV} {p : List PyV} {month : Int} {l : List RcV}
theorem chg_ok (ht : 0 ≤ t.free) (hc : ∀ c ∈ t.cl, clNum c = true) (hr : ∀ r ∈ l, RcRight r) (hcls : ∀ s c, clsOf t.cl s = some c → c ∈ t.cl) : ∀ (k : Nat) (x : ChV × RcV), x ∈ (chgTo t p month l k).1 → ChOk x
  | 0, x, h => by cases h
  | k + 1, x, h => by
    cases hl : l[k]? with
    | none => rw [chgTo, hl] at h; exact chg_ok ht hc hr hcls k x h
    | some r =>
      cases hp : paysFor t p month r with
      | none => rw [chgTo_skip hl hp] at h; exact chg_ok ht hc hr hcls k x h
      | some q =>
        obtain ⟨who, c⟩ := q
        rw [chgTo_add hl hp] at h
        rcases List.mem_append.1 h with h | h
        · exact chg_ok ht hc hr hcls k x h
        · rw [List.mem_singleton.1 h]
          have hrr := (hr r (mem_of_get hl)).talk
          have hf := free_bd (p := p) (month := month) ht (fun r h => (hr r h).talk.1) k hl who c
          have hcn := hc c (hcls _ _ (paysFor_some hp).2.2.2)
          have := priceOf_bd hcn (talk := r.talk - freeOf t (chgTo t p month l k).2 who c r) (by omega) (by omega)
          exact ⟨hf.1, hf.2, this.1, this.2⟩
end
theorem chgTo_len (t : TfV) (p : List PyV) (month : Int) (l : List RcV) : ∀ k, (chgTo t p month l k).1.length ≤ k
  | 0 => Nat.le_refl _
  | k + 1 => by
    have ih := chgTo_len t p month l k
    cases hl : l[k]? with
    | none => rw [chgTo, hl]; dsimp only; omega
    | some r =>
      cases hp : paysFor t p month r with
      | none => rw [chgTo_skip hl hp]; omega
      | some q =>
        obtain ⟨who, c⟩ := q
        rw [chgTo_add hl hp]
        simp; omega
def chgAll (t : TfV) (p : List PyV) (month : Int) (l : List RcV) : List (ChV × RcV) := (chgTo t p month l l.length).1

/-! Invoices. -/
structure InV where
  pay : ByteArray
  month : Int
  calls : Int
  talk : Int
  cents : Int
def InV.row (v : InV) : List Value := [.string v.pay, .int .i64 v.month, .int .i64 v.calls, .int .i64 v.talk, .int .i64 v.cents]
theorem InV.row_len (v : InV) : v.row.length = 5 := rfl
/-- Calls, talk and cost of the first k charges that somebody pays. -/
def inSum (ch : List (ChV × RcV)) (who : ByteArray) : Nat → Int × Int × Int
  | 0 => (0, 0, 0)
  | k + 1 => (ch[k]?).elim (inSum ch who k) fun x => if nb x.1.pay = nb who then ((inSum ch who k).1 + 1, (inSum ch who k).2.1 + x.2.talk, (inSum ch who k).2.2 + x.1.cost) else inSum ch who k
section
variable {ch : List (ChV × RcV)} {who : ByteArray} {k : Nat} {x : ChV × RcV}
theorem inSum_hit (h : ch[k]? = some x) (e : nb x.1.pay = nb who) : inSum ch who (k + 1) = ((inSum ch who k).1 + 1, (inSum ch who k).2.1 + x.2.talk, (inSum ch who k).2.2 + x.1.cost) := by
  rw [inSum, h]; simp only [Option.elim, if_pos e]
theorem inSum_miss (h : ch[k]? = some x) (e : ¬ nb x.1.pay = nb who) : inSum ch who (k + 1) = inSum ch who k := by
  rw [inSum, h]; simp only [Option.elim, if_neg e]
theorem inSum_bd (h : ∀ x ∈ ch, ChOk x ∧ x.2.talk ≤ 86400000) (who : ByteArray) : ∀ k : Nat, 0 ≤ (inSum ch who k).1 ∧ (inSum ch who k).1 ≤ k ∧ 0 ≤ (inSum ch who k).2.1 ∧ (inSum ch who k).2.1 ≤ 86400000 * k ∧ 0 ≤ (inSum ch who k).2.2 ∧ (inSum ch who k).2.2 ≤ 86400001000000 * k
  | 0 => by simp [inSum]
  | k + 1 => by
    have ih := inSum_bd h who k
    cases hc : ch[k]? with
    | none => rw [inSum, hc]; simp only [Option.elim]; omega
    | some x =>
      obtain ⟨⟨a1, a2, a3, a4⟩, a5⟩ := h x (mem_of_get hc)
      by_cases e : nb x.1.pay = nb who
      · rw [inSum_hit hc e]; dsimp only; omega
      · rw [inSum_miss hc e]; omega
end
def invOf (month : Int) (ch : List (ChV × RcV)) (who : ByteArray) : InV := ⟨who, month, (inSum ch who ch.length).1, (inSum ch who ch.length).2.1, (inSum ch who ch.length).2.2 / 1000⟩
def invTo (month : Int) (ch : List (ChV × RcV)) (p : List PyV) : Nat → List InV
  | 0 => []
  | k + 1 => invTo month ch p k ++ ((p[k]?).elim [] fun y => if 0 < (inSum ch y.key ch.length).1 then [invOf month ch y.key] else [])
section
variable {month : Int} {ch : List (ChV × RcV)} {p : List PyV} {k : Nat} {y : PyV}
theorem invTo_hit (h : p[k]? = some y) (e : 0 < (inSum ch y.key ch.length).1) : invTo month ch p (k + 1) = invTo month ch p k ++ [invOf month ch y.key] := by
  rw [invTo, h]; simp only [Option.elim, if_pos e]
theorem invTo_miss (h : p[k]? = some y) (e : ¬ 0 < (inSum ch y.key ch.length).1) : invTo month ch p (k + 1) = invTo month ch p k := by
  rw [invTo, h]; simp only [Option.elim, if_neg e, List.append_nil]
end
/-! Records of which nobody pays. -/
section
variable {t : TfV} {p : List PyV} {l : List RcV} {k : Nat} {r : RcV}
end
end
end Go.Proofs.YtpildcnoghojpaaGreatDoor
/- Contracts of slices.Index and slices.Contains at strings. Conditions: none. -/
namespace Go.Proofs.YtpildcnoghojpaaGreatDoor
section
open Go.RowKit

set_option maxHeartbeats 2000000 in
theorem indexS_any (lo : Nat) (A : Option Addr) (n c : Nat) (l : List ByteArray) (s : ByteArray) (w : World) (h : Recs srow 1 w lo A n c l) (hn : n ≤ 1000000000) :
    Calls Tryz.prog 77 #[.slice A n c, .string s] w (Same (.int .i64 (idxP (fun x => nb x == nb s) l)) w) := by
  have H := Lib.hid h; clear h
  go_enter Tryz.func77, Tryz.ntmps77
  go_wp2_with fail
  go_loop [5, 8] (fun _ t => ∃ i : Nat, i ≤ n ∧ t = .int .i64 i ∧ (l.take i).all (fun x => !(nb x == nb s)) = true) (fun _ t => n - (intOf t).toNat)
  case atStart => exact ⟨0, Nat.zero_le _, rfl, rfl⟩
  case round =>
    obtain ⟨i, hi, rfl, ha⟩ := hrel
    have HA := Lib.hid ha; clear ha
    by_cases hlt : i < n
    · obtain ⟨g, o, x, rfl, _, hgl, hz, hcc⟩ := H.out.get srow_len hlt
      have ks := hcc 0 _ rfl
      simp only [Nat.mul_one, Nat.add_zero] at ks
      have HZ := Lib.hid hz; clear hz hcc
      obtain ⟨E, hE⟩ : ∃ E, (s.toList == x.toList) = E := ⟨_, rfl⟩
      have HE := Lib.hid (show (nb x == nb s) = E by rw [← hE, eqS_nb, Bool.eq_iff_iff, beq_iff_eq, beq_iff_eq]; exact eq_comm)
      cases E
      · go_wp2_with fail
        go_round
        case rel => exact ⟨i + 1, by omega, by go_num, allP_succ (p := fun x : ByteArray => nb x == nb s) HA.out HZ.out HE.out⟩
        case measure => simp [intOf]; omega
      · go_wp2_with fail
        go_ret
        exact ⟨by rw [idxP_some (p := fun x : ByteArray => nb x == nb s) HA.out HZ.out HE.out]; rfl, rfl⟩
    · obtain rfl : n = i := by omega
      go_wp2_with fail
      go_ret
      have h := HA.out
      rw [List.take_of_length_le (by rw [H.out.len]; exact Nat.le_refl _)] at h
      exact ⟨by rw [idxP_none (p := fun x : ByteArray => nb x == nb s) h]; rfl, rfl⟩
set_option maxHeartbeats 1000000 in
theorem containsS_any (lo : Nat) (A : Option Addr) (n c : Nat) (l : List ByteArray) (s : ByteArray) (w : World) (h : Recs srow 1 w lo A n c l) (hn : n ≤ 1000000000) :
    Calls Tryz.prog 49 #[.slice A n c, .string s] w (Same (.bool (l.any (fun x => nb x == nb s))) w) := by
  have H := Lib.hid h; clear h
  obtain ⟨I, hI⟩ : ∃ I, idxP (fun x => nb x == nb s) l = I := ⟨_, rfl⟩
  have HI := Lib.hid (show decide (0 ≤ I) = l.any (fun x => nb x == nb s) by rw [← hI]; exact idxP_any)
  have HI2 := Lib.hid hI; clear hI
  go_enter Tryz.func49, Tryz.ntmps49
  go_wp2_with (first
    | (go_at_call 77; refine (indexS_any lo _ _ _ l s _ H.out hn).mono ?_; rintro e w2 ⟨rfl, rfl⟩; rw [HI2.out])
    | fail)
  go_ret
  exact ⟨by rw [← HI.out]; rfl, rfl⟩
end
end Go.Proofs.YtpildcnoghojpaaGreatDoor
/- Contracts of slices.Equal at charges, invoices and numbers that read as the same list. Conditions: none. -/
namespace Go.Proofs.YtpildcnoghojpaaGreatDoor
section
open Go.RowKit
end
end Go.Proofs.YtpildcnoghojpaaGreatDoor
/- A region that draws its order and stores at its end: loads are taken first while the first store (number b) has not come up. Over any program. Conditions: none. -/
namespace Go.Proofs.YtpildcnoghojpaaGreatDoor
section
section
open Go.RowKit

theorem set_take_drop {xs : List Value} {p : Nat} (hp : p < xs.length) (v : Value) (r : List Value) : (xs.set p v).take (p + 1) ++ r ++ (xs.set p v).drop (p + 1 + r.length) = xs.take p ++ (v :: r) ++ xs.drop (p + (v :: r).length) := by
  have h : (xs.set p v)[p]? = some v := by simp [hp]
  have e1 : (xs.set p v).take (p + 1) = xs.take p ++ [v] := by
    rw [take_snoc' h, List.take_set, List.set_eq_of_length_le (by rw [List.length_take]; omega)]
  have e2 : (xs.set p v).drop (p + 1 + r.length) = xs.drop (p + 1 + r.length) := List.drop_set_of_lt (by omega)
  rw [e1, e2, List.length_cons, show p + (r.length + 1) = p + 1 + r.length by omega]
  simp
section
variable {P : Program} {lo size n c g : Nat} {e : TypeId}
theorem run_storeCells_own : ∀ (vs : List Value) (s j : Nat) (w : World) (xs : List Value), Own w lo e size (some ⟨g, 0, none⟩) n c xs → (∀ v ∈ vs, v.oneCell' = true) → s + j + vs.length ≤ n * size →
    ∃ w', (storeCells ⟨g, s, none⟩ vs j).run P w = .ok () w' ∧ Own w' lo e size (some ⟨g, 0, none⟩) n c (xs.take (s + j) ++ vs ++ xs.drop (s + j + vs.length)) ∧ w.grownBy w' (some g)
  | [], s, j, w, xs, h, _, _ => ⟨w, rfl, by simpa using h, gr_refl _ _⟩
  | v :: rest, s, j, w, xs, h, h1, hl => by
    have hlen := h.len
    have hp : s + j < n * size := by simp at hl; omega
    have hcell := h.cell hp
    rw [List.getElem?_eq_getElem (by omega)] at hcell
    have hfro := h.frozen (s + j)
    have hst : (store ((⟨g, s, none⟩ : Addr).add j) v).run P w = .ok () (w.setCell ⟨g, s + j, none⟩ v) := by
      rw [add_mk, run_store P w _ v _ (h1 v (by simp)), hcell]
      simp [hfro]
    have h2 := h.stored (s + j) v
    obtain ⟨w', hrun, h3, hg⟩ := run_storeCells_own rest s (j + 1) (w.setCell ⟨g, s + j, none⟩ v) _ h2 (fun x hx => h1 x (by simp [hx])) (by simp at hl; omega)
    refine ⟨w', ?_, ?_, gr_same (gr_setCell (gr_refl w (some g)) (.inl rfl) v) hg⟩
    · simp only [storeCells, Sem.run_bind, hst, Result.andThen_ok, hrun]
    · rw [← Nat.add_assoc, set_take_drop (by omega)] at h3
      exact h3
variable {w : World} {o : Oper} {a : Act} {K : Act → World → Prop} {Q : Exit → Act → World → Prop} {α : Type} {row : α → List Value} {k : Nat} {l : List α}
end
end
section
variable {P : Program} {ops : Array Oper} {Q : Exit → Act → World → Prop} {md : Region.Mode} {S : World → Prop} {b : Nat}

/-- Whatever order is picked from here on; S holds behind every operation till number b has come up. -/
def wpAnyB (P : Program) (md : Region.Mode) (ops : Array Oper) (Q : Exit → Act → World → Prop) (S : World → Prop) (b : Nat) : Nat → Array Bool → Act → World → Prop
  | 0, listed, a, w => Region.ready md ops listed = [] ∧ Q .normal a w
  | fuel + 1, listed, a, w =>
    (Region.ready md ops listed = [] → Q .normal a w) ∧
    ∀ i ∈ Region.ready md ops listed, wpOp P ops Q i (fun a' w' => ((listed.setIfInBounds i true).getD b false = true ∨ S w') ∧ wpAnyB P md ops Q S b fuel (listed.setIfInBounds i true) a' w') a w
theorem wpAny_of_B : ∀ (fuel : Nat) (listed : Array Bool) (a : Act) (w : World), wpAnyB P md ops Q S b fuel listed a w → wpAny P md ops Q fuel listed a w
  | 0, _, _, _, h => h
  | fuel + 1, _, _, _, h => ⟨h.1, fun i hi => wpOp_mono (fun a' w' h' => wpAny_of_B fuel _ a' w' h'.2) (h.2 i hi)⟩
theorem wp_region_B {id : Nat} {a : Act} {w : World} (S : World → Prop) (b : Nat) (hm : P.follows .mixedOrders = true)
    (h : wpAnyB P .any ops Q S b ops.size (Array.replicate ops.size false) a w.drew) : (Code.region id ops true).wp P Q a w :=
  wp_region_any hm (wpAny_of_B (S := S) (b := b) _ _ _ _ h)
/-- Number b waits for number i, over at most f others. -/
def waitsT (md : Region.Mode) (ops : Array Oper) : Nat → Nat → Nat → Bool
  | 0, b, i => Region.waitsFor md ops b i
  | f + 1, b, i => Region.waitsFor md ops b i || (List.range ops.size).any fun j => Region.waitsFor md ops b j && waitsT md ops f j i
theorem waitsT_spec {listed : Array Bool} (inv : HeadInv md ops ops.size listed) : ∀ (f b i : Nat), waitsT md ops f b i = true → listed.getD b false = true → listed.getD i false = true := by
  have one : ∀ b i, Region.waitsFor md ops b i = true → listed.getD b false = true → listed.getD i false = true := fun b i h hl => by
    obtain ⟨ob, hob, e, he, hb, hon⟩ := Region.waitsFor_spec h
    have := inv.closed b ob hob hl e he hb
    rwa [hon] at this
  intro f
  induction f with
  | zero => exact one
  | succ f ih =>
    intro b i h hl
    unfold waitsT at h
    rw [Bool.or_eq_true] at h
    rcases h with h | h
    · exact one b i h hl
    · obtain ⟨j, _, hj⟩ := List.any_eq_true.1 h
      rw [Bool.and_eq_true] at hj
      exact ih j i hj.2 (one b j hj.1 hl)
/-- S where the operation looks at memory, else nothing. -/
def memS0 (S : World → Prop) : Bool → World → Prop
  | true => S
  | false => fun _ => True
theorem wpAnyB_first {i : Nat} {oi : Oper} {v : Value} (mem : Bool) (hi : ops[i]? = some oi) (hsel : ∀ (j : Nat) (o : Oper) cs b, ops[j]? = some o → o.op ≠ .select cs b)
    (hQ : ∀ c a w, Q (.panic c) (a.put oi.dst v) w → Q (.panic c) a w) (hib : i ≠ b) (hwait : mem = true → waitsT md ops 4 b i = true) :
    ∀ (fuel : Nat) (listed : Array Bool) (a : Act) (w : World), HeadInv md ops ops.size listed →
      (∀ j oj, ops[j]? = some oj → j ≠ i → listed.getD j true = false → (∀ e ∈ oj.after, Region.binds md e = true → e.on ≠ i) → oi.apart ops oj = true) →
      i ∈ Region.ready md ops listed → YieldsIf P ops (memS0 S mem) oi v a → (listed.getD b false = true ∨ S w) →
      wpAnyB P md ops Q S b fuel (listed.setIfInBounds i true) (a.put oi.dst v) w → wpAnyB P md ops Q S b (fuel + 1) listed a w := by
  have hm : ∀ (listed : Array Bool) (w : World), HeadInv md ops ops.size listed → listed.getD i true = false → (listed.getD b false = true ∨ S w) → memS0 S mem w := by
    intro listed w inv hun hS
    cases mem with
    | false => trivial
    | true =>
      rcases hS with h | h
      · have := waitsT_spec inv 4 b i (hwait rfl) h
        rw [getD_both hun] at this
        cases this
      · exact h
  intro fuel
  induction fuel with
  | zero =>
    intro listed a w inv _ hr hy hS H
    have hun := (mem_ready.1 hr).1
    refine ⟨fun h => (by rw [h] at hr; cases hr), fun j hj => ?_⟩
    by_cases hji : j = i
    · subst hji; exact hy.wpOp hi (hm _ _ inv hun hS) ⟨by rw [getD_set_ne false hib]; exact hS, H⟩
    · have := ready_mono hj hji
      rw [H.1] at this
      cases this
  | succ fuel ih =>
    intro listed a w inv hfree hr hy hS H
    have hun := (mem_ready.1 hr).1
    refine ⟨fun h => (by rw [h] at hr; cases hr), fun j hj => ?_⟩
    by_cases hji : j = i
    · subst hji; exact hy.wpOp hi (hm _ _ inv hun hS) ⟨by rw [getD_set_ne false hib]; exact hS, H⟩
    · have h1 := H.2 j (ready_mono hj hji)
      obtain ⟨hjun, oj, hoj, hall⟩ := mem_ready.1 hj
      have hjn : j < ops.size := (Array.getElem?_eq_some_iff.1 hoj).1
      have hnot : ∀ e ∈ oj.after, Region.binds md e = true → e.on ≠ i := fun e he hb heq => by
        have h1 := hall e he hb
        rw [heq, getD_both hun] at h1
        cases h1
      have h2 := wpOp_putIf hoj (hfree j oj hoj hji hjun hnot) (fun cs b => hsel i oi cs b hi) (fun cs b => hsel j oj cs b hoj) hQ hy h1
      have hfree' : ∀ k ok, ops[k]? = some ok → k ≠ i → (listed.setIfInBounds j true).getD k true = false →
          (∀ e ∈ ok.after, Region.binds md e = true → e.on ≠ i) → oi.apart ops ok = true := fun k ok hk hki hkun hno => by
        refine hfree k ok hk hki ?_ hno
        by_cases hjk : j = k
        · subst hjk; exact hjun
        · rw [getD_set_ne true hjk] at hkun; exact hkun
      refine wpOp_mono (fun a' w' h3 => ?_) h2
      have hS' : (listed.setIfInBounds j true).getD b false = true ∨ S w' := by
        rcases h3.2.1 with h | h
        · left
          rw [Array.setIfInBounds_comm _ _ (Ne.symm hji), getD_set_ne false hib] at h
          exact h
        · exact .inr h
      refine ⟨hS', ih (listed.setIfInBounds j true) a' w' (inv.set hj hjn) hfree' (ready_mono hr (Ne.symm hji)) h3.1 hS' ?_⟩
      rw [Array.setIfInBounds_comm _ _ hji]
      exact h3.2.2
/-- What has come up is closed. -/
def closedB (md : Region.Mode) (ops : Array Oper) (listed : Array Bool) : Bool :=
  decide (listed.size = ops.size) && (List.range ops.size).all fun j => !listed.getD j false || (match ops[j]? with | some o => o.after.all fun e => !Region.binds md e || listed.getD e.on false | none => true)
theorem closedB_spec {listed : Array Bool} (h : closedB md ops listed = true) : HeadInv md ops ops.size listed := by
  unfold closedB at h
  simp only [Bool.and_eq_true, decide_eq_true_eq] at h
  obtain ⟨h1, h4⟩ := h
  refine ⟨h1, fun j oj hj hl e he hb => ?_, fun t ht ht2 => by omega⟩
  have hj2 := (Array.getElem?_eq_some_iff.1 hj).1
  have := List.all_eq_true.1 h4 j (List.mem_range.2 hj2)
  rw [hl, hj] at this
  simp only [Bool.not_true, Bool.false_or] at this
  have := Array.all_eq_true_iff_forall_mem.1 this e he
  rw [hb] at this
  simpa using this
def btakeB (md : Region.Mode) (ops : Array Oper) (b : Nat) (mem : Bool) (listed : Array Bool) (k : Nat) : Bool :=
  Region.noSelect ops && decide (k ≠ b) && (!mem || waitsT md ops 4 b k) && closedB md ops listed && (Region.ready md ops listed).contains k && Region.free md ops listed k
variable {ls : List Oper}
/-- One that reckons (mem = false) or loads (mem = true). -/
theorem B_take {fuel k : Nat} {listed : Array Bool} {o : Oper} {a : Act} {w : World} (mem : Bool) (v : Value) (ho : opAt ls k = some o) (hB : btakeB md ls.toArray b mem listed k = true)
    (hQ : ∀ c a w, Q (.panic c) (a.put o.dst v) w → Q (.panic c) a w) (hw : Region.wanted o (yielded ls.toArray a.tmps) = true) (hy : ∀ w, memS0 S mem w → (execOp a.eval o).run P w = .ok (.value v) w) (hS : listed.getD b false = true ∨ S w)
    (h : wpAnyB P md ls.toArray Q S b fuel (listed.setIfInBounds k true) (a.put o.dst v) w) : wpAnyB P md ls.toArray Q S b (fuel + 1) listed a w := by
  unfold btakeB at hB
  simp only [Bool.and_eq_true, decide_eq_true_eq, Bool.or_eq_true, Bool.not_eq_true'] at hB
  obtain ⟨⟨⟨⟨⟨h1, h2⟩, h3⟩, h4⟩, h5⟩, h6⟩ := hB
  rw [opAt_eq] at ho
  exact wpAnyB_first mem ho (Region.noSelect_spec h1) hQ h2 (fun e => h3.resolve_left (by rw [e]; decide)) fuel listed a w (closedB_spec h4) (Region.free_spec ho h6) (by simpa using h5) (.inl ⟨hw, hy⟩) hS h
/-- One that comes up alone. -/
theorem B_run {fuel k : Nat} {listed : Array Bool} {o : Oper} {a : Act} {w : World} (ho : opAt ls k = some o) (hr : Region.ready md ls.toArray listed = [k]) (hw : Region.wanted o (yielded ls.toArray a.tmps) = true)
    (h : ∀ K : Act → World → Prop, (∀ a' w', ((listed.setIfInBounds k true).getD b false = true ∨ S w') → wpAnyB P md ls.toArray Q S b fuel (listed.setIfInBounds k true) a' w' → K a' w') → o.wp P a w K Q) : wpAnyB P md ls.toArray Q S b (fuel + 1) listed a w := by
  refine ⟨fun h1 => (by rw [hr] at h1; cases h1), fun i hi => ?_⟩
  rw [hr] at hi
  have hik : i = k := by simpa using hi
  subst hik
  rw [opAt_eq] at ho
  unfold wpOp
  simp only [ho, hw, if_true]
  exact .inl (h _ fun a' w' h1 h2 => ⟨h1, h2⟩)
theorem B_done {listed : Array Bool} {a : Act} {w : World} (hr : Region.ready md ops listed = []) (h : Q .normal a w) : wpAnyB P md ops Q S b 0 listed a w := ⟨hr, h⟩
end
end
end Go.Proofs.YtpildcnoghojpaaGreatDoor
/- Moves in drawn regions: two or three operations that come up in any order; whole loads. Conditions: none. -/
namespace Go.Proofs.YtpildcnoghojpaaGreatDoor
section
open Go.RowKit

theorem exec_ldr {P : Program} {w : World} {o : Oper} {ev : Operand → Value} {ty : TypeId} {n : Nat} (T : StructT P ty n) (x : Operand) (ho : o.op = .load ty x) (a : Addr) (hx : ev x = .pointer (some a)) (cs : List Value) (hb : ∀ (j : Nat) (u : Value), cs[j]? = some u → w.cell? (a.add j) = some u) (hn : cs.length = n) :
    (execOp ev o).run P w = .ok (.value (.agg cs.toArray)) w := by
  unfold execOp
  simp only [ho, hx, Instr.loadAt, Instr.sureAddr, Sem.run_bind, Sem.run_pure, Result.andThen_ok, run_load_at T hn hb]
theorem exec_ldb {P : Program} {w : World} {o : Oper} {ev : Operand → Value} {ty : TypeId} {n : Nat} (T : StructT P ty n) (x : Operand) (ho : o.op = .load ty x) (g : Nat) (hx : ev x = .pointer (some ⟨g, 0, none⟩)) (t : TypeId) (cs : List Value) (hb : Blk w g t cs.toArray) (hn : cs.length = n) :
    (execOp ev o).run P w = .ok (.value (.agg cs.toArray)) w := by
  unfold execOp
  simp only [ho, hx, Instr.loadAt, Instr.sureAddr, Sem.run_bind, Sem.run_pure, Result.andThen_ok, run_load_at T hn (fun j u hu => by rw [add_mk, Nat.zero_add, hb.cell]; simpa using hu)]
section
variable {P : Program} {ls : List Oper} {md : Region.Mode} {Q : Exit → Act → World → Prop} {S : World → Prop} {b : Nat}
end
end
end Go.Proofs.YtpildcnoghojpaaGreatDoor
/- A place of an own slice of one-cell elements is stored; the places behind one are cleared. Over any program. Conditions: none. -/
namespace Go.Proofs.YtpildcnoghojpaaGreatDoor
section
open Go.RowKit

section
variable {P : Program} {lo n c g : Nat} {e : TypeId} {w : World} {o : Oper} {a : Act} {K : Act → World → Prop} {Q : Exit → Act → World → Prop} {α : Type} {row : α → List Value} {l : List α}
theorem flat_one (hrow : ∀ a, (row a).length = 1) {i : Nat} (hi : i < l.length) {z : α} {v : Value} (hz : row z = [v]) : (l.flatMap row).take i ++ [v] ++ (l.flatMap row).drop (i + 1) = (l.set i z).flatMap row := by
  have h := flat_set hrow (by decide) (List.getElem?_eq_getElem hi) (a' := z) (ys := [v]) 0 (by simp) (by rw [hz, List.take_zero, List.nil_append, List.drop_of_length_le (by rw [hrow]; simp), List.append_nil])
  simpa [Nat.mul_one] using h
theorem wp_store_one {ty : TypeId} (hsz : (P.info? ty).map (·.size) = some 1) (hrow : ∀ a, (row a).length = 1) (x y : Operand) (ho : o.op = .store ty x y) (i : Nat) (hx : a.eval x = .pointer (some ⟨g, i, none⟩)) (z : α) (v : Value) (hy : a.eval y = v) (hv : v.cells = #[v]) (hz : row z = [v])
    (h : OwnR row 1 w lo e (some ⟨g, 0, none⟩) n c l) (hi : i < n) (h1 : v.oneCell' = true)
    (hK : ∀ w', OwnR row 1 w' lo e (some ⟨g, 0, none⟩) n c (l.set i z) → w.grownBy w' (some g) → K (a.put o.dst undef) w') : o.wp P a w K Q := by
  obtain ⟨w', hrun, h2, hg⟩ := run_storeCells_own (P := P) [v] i 0 w _ h.1 (by intro u hu; rw [List.mem_singleton.1 hu]; exact h1) (by simp; omega)
  have hf := flat_one hrow (l := l) (by rw [h.2]; exact hi) hz
  have h3 : Own w' lo e 1 (some ⟨g, 0, none⟩) n c ((l.set i z).flatMap row) := by rw [← hf]; simpa using h2
  cases hq : P.info? ty with
  | none => simp [hq] at hsz
  | some inf =>
    have hs : inf.size = 1 := by simpa [hq] using hsz
    unfold Oper.wp execOp
    have hst : (Instr.storeAt ty (.pointer (some ⟨g, i, none⟩)) v).run P w = .ok () w' := by
      simp [Instr.storeAt, Instr.sureAddr, storeVar, sizeOf, typeInfo, hq, hs, hv, hrun]
    simp only [ho, hx, hy, Sem.run_bind, Sem.run_pure, Result.andThen_ok, hst]
    exact hK w' ⟨h3, by rw [List.length_set]; exact h.2⟩ hg
end
end
end Go.Proofs.YtpildcnoghojpaaGreatDoor
/- Contract of cmp.Or at some ints. Conditions: none. -/
namespace Go.Proofs.YtpildcnoghojpaaGreatDoor
section
open Go.RowKit

section
variable {α : Type} {f : α → α → Int}
end
end
end Go.Proofs.YtpildcnoghojpaaGreatDoor
/- Acts as they lie in memory, and what is wrong with them, in plain Lean. Conditions: none. -/
namespace Go.Proofs.YtpildcnoghojpaaGreatDoor
section
open Go.RowKit

/-- An act. -/
structure ActV where
  at_ : Int
  bx : ByteArray
  id : ByteArray
  kd : Int
  lg : Int
  frm : ByteArray
def ActV.row (a : ActV) : List Value := [.int .i64 a.at_, .string a.bx, .string a.id, .int .i64 a.kd, .int .i64 a.lg, .string a.frm]
theorem ActV.row_len (a : ActV) : a.row.length = 6 := rfl
theorem ActV.one (z : ActV) : ∀ u ∈ z.row, u.oneCell' = true := fun u hu => by
  unfold ActV.row at hu
  simp only [List.mem_cons, List.not_mem_nil, or_false] at hu
  rcases hu with rfl | rfl | rfl | rfl | rfl | rfl <;> rfl
/-- What is known of an act that was read. -/
def AcOkL (a : ActV) : Prop := (a.bx.size ≤ 1000000 ∧ a.id.size ≤ 1000000 ∧ a.frm.size ≤ 1000000) ∧ (-1152921504606846976 ≤ a.at_ ∧ a.at_ ≤ 1152921504606846976) ∧ (-1152921504606846976 ≤ a.kd ∧ a.kd ≤ 1152921504606846976)
/-- What is known of an act that was drawn. -/
def AcOk (a : ActV) : Prop := (a.bx.size ≤ 1000 ∧ a.id.size ≤ 1000 ∧ a.frm.size ≤ 1000) ∧ (-1152921504606846976 ≤ a.at_ ∧ a.at_ ≤ 1152921504606846976) ∧ (-1152921504606846976 ≤ a.kd ∧ a.kd ≤ 1152921504606846976)
theorem AcOk.l {a : ActV} (h : AcOk a) : AcOkL a := ⟨⟨Nat.le_trans h.1.1 (by decide), Nat.le_trans h.1.2.1 (by decide), Nat.le_trans h.1.2.2 (by decide)⟩, h.2⟩
def AcsL (w : World) (lo : Nat) (A : Option Addr) (n c : Nat) (l : List ActV) : Prop := Recs ActV.row 6 w lo A n c l ∧ ∀ a ∈ l, AcOkL a
def Acs (w : World) (lo : Nat) (A : Option Addr) (n c : Nat) (l : List ActV) : Prop := Recs ActV.row 6 w lo A n c l ∧ ∀ a ∈ l, AcOk a
theorem Acs.l {w : World} {lo : Nat} {A : Option Addr} {n c : Nat} {l : List ActV} (h : Acs w lo A n c l) : AcsL w lo A n c l := ⟨h.1, fun a ha => (h.2 a ha).l⟩
theorem Acs.grown {w w' : World} {lo : Nat} {A : Option Addr} {n c : Nat} {l : List ActV} (h : Acs w lo A n c l) {r : Option Nat} (hg : w.grownBy w' r) (hr : ∀ g, r = some g → g < lo) : Acs w' lo A n c l := ⟨h.1.grown hg hr, h.2⟩
section
variable {l : List ActV} {i : Nat} {z b : ActV}
end
end
end Go.Proofs.YtpildcnoghojpaaGreatDoor
/- strings.Compare as a call that leaves the world as it is; an order of strings. Conditions: none. -/
namespace Go.Proofs.YtpildcnoghojpaaGreatDoor
section
open Go.RowKit
end
end Go.Proofs.YtpildcnoghojpaaGreatDoor
/- Contracts of cmp.Compare and slices.Compare at strings. Conditions: none. -/
namespace Go.Proofs.YtpildcnoghojpaaGreatDoor
section
open Go.RowKit
end
end Go.Proofs.YtpildcnoghojpaaGreatDoor

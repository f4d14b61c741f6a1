/- Contracts of the checks of packets, the program's and the document's. Conditions: none. -/
import Derived.Test.YtdknfhpconfhkaaStruct
import Derived.Test.YtdknfhpconfhkaaRows
import Derived.WalkSpells
import Derived.BigGuardPart
namespace Go.Proofs.Ytdknfhpconfhkaa
open Go.RowKit

/-- A function that answers v and, of what was there, changes nothing. -/
def RetV (v : Value) (w : World) (e : Ending) (w' : World) : Prop := e = .returned v ∧ w.grownBy w' none
/-- A function that answers a value of which P holds and, of what was there, changes nothing. -/
def RetP (P : Value → World → Prop) (w : World) (e : Ending) (w' : World) : Prop := ∃ v, e = .returned v ∧ P v w' ∧ w.grownBy w' none
/-- A function that only computes. -/
def Same (v : Value) (w : World) (e : Ending) (w' : World) : Prop := e = .returned v ∧ w = w'

/-- Is a number from lo to hi? -/
def inB (n lo hi : Int) : Bool := decide (lo ≤ n) && decide (n ≤ hi)

set_option maxHeartbeats 1000000 in
theorem in_any (n lo hi : Int) (w : World) : Calls Try.prog 63 #[.int .i64 n, .int .i64 lo, .int .i64 hi] w (Same (.bool (inB n lo hi)) w) := by
  have hfin : inB n lo hi = (decide (lo ≤ n) && decide (n ≤ hi)) := rfl
  have H := Lib.hid hfin; clear hfin
  by_cases h1 : lo ≤ n <;> by_cases h2 : n ≤ hi
  all_goals
    go_enter Try.func63, Try.ntmps63
    go_wp2
    go_ret
    exact ⟨by rw [H.out]; simp [h1, h2], rfl⟩
set_option maxHeartbeats 1000000 in
theorem within_any (n lo hi : Int) (w : World) : Calls Try.prog 67 #[.int .i64 n, .int .i64 lo, .int .i64 hi] w (Same (.bool (inB n lo hi)) w) := by
  have hfin : inB n lo hi = (decide (lo ≤ n) && decide (n ≤ hi)) := rfl
  have H := Lib.hid hfin; clear hfin
  by_cases h1 : lo ≤ n <;> by_cases h2 : n ≤ hi
  all_goals
    go_enter Try.func67, Try.ntmps67
    go_wp2
    go_ret
    exact ⟨by rw [H.out]; simp [h1, h2], rfl⟩

/-- What is wrong with a packet. -/
def pktFault (ty sq tm sr : Int) (n : Nat) : Int :=
  if inB ty 0 127 && inB sq 0 65535 && inB tm 0 4294967295 && inB sr 0 4294967295 then (if n > 1000 then 2 else 0) else 1

theorem pktCases (ty sq tm sr : Int) (n : Nat) : inB ty 0 127 = false ∨ (inB ty 0 127 = true ∧ inB sq 0 65535 = false) ∨ (inB ty 0 127 = true ∧ inB sq 0 65535 = true ∧ inB tm 0 4294967295 = false) ∨
    (inB ty 0 127 = true ∧ inB sq 0 65535 = true ∧ inB tm 0 4294967295 = true ∧ inB sr 0 4294967295 = false) ∨ (inB ty 0 127 = true ∧ inB sq 0 65535 = true ∧ inB tm 0 4294967295 = true ∧ inB sr 0 4294967295 = true ∧ n > 1000) ∨
    (inB ty 0 127 = true ∧ inB sq 0 65535 = true ∧ inB tm 0 4294967295 = true ∧ inB sr 0 4294967295 = true ∧ ¬ n > 1000) := by
  cases inB ty 0 127 <;> cases inB sq 0 65535 <;> cases inB tm 0 4294967295 <;> cases inB sr 0 4294967295 <;> simp <;> omega

set_option maxHeartbeats 2000000 in
theorem packetFault_any (ty sq tm sr : Int) (mk : Bool) (A : Option Addr) (n c : Nat) (w : World) :
    Calls Try.prog 12 #[.agg #[.int .i64 ty, .int .i64 sq, .int .i64 tm, .int .i64 sr, .bool mk, .slice A n c]] w (RetV (.int .i64 (pktFault ty sq tm sr n)) w) := by
  have HC := Lib.hid (pktCases ty sq tm sr n)
  rcases HC.out with h1 | ⟨h1, h2⟩ | ⟨h1, h2, h3⟩ | ⟨h1, h2, h3, h4⟩ | ⟨h1, h2, h3, h4, h5⟩ | ⟨h1, h2, h3, h4, h5⟩
  all_goals
    clear HC
    go_enter Try.func12, Try.ntmps12
    go_wp2_with (go_at_call 63; refine (in_any _ _ _ _).mono ?_; rintro e w' ⟨rfl, rfl⟩)
    go_ret
    exact ⟨by simp [pktFault, *], gr_alloc (gr_refl _ _) _⟩
set_option maxHeartbeats 2000000 in
theorem checkPacket_any (ty sq tm sr : Int) (mk : Bool) (A : Option Addr) (n c : Nat) (w : World) :
    Calls Try.prog 16 #[.agg #[.int .i64 ty, .int .i64 sq, .int .i64 tm, .int .i64 sr, .bool mk, .slice A n c]] w (RetV (.int .i64 (pktFault ty sq tm sr n)) w) := by
  have HC := Lib.hid (pktCases ty sq tm sr n)
  rcases HC.out with h1 | ⟨h1, h2⟩ | ⟨h1, h2, h3⟩ | ⟨h1, h2, h3, h4⟩ | ⟨h1, h2, h3, h4, h5⟩ | ⟨h1, h2, h3, h4, h5⟩
  all_goals
    clear HC
    go_enter Try.func16, Try.ntmps16
    go_wp2_with (go_at_call 67; refine (within_any _ _ _ _).mono ?_; rintro e w' ⟨rfl, rfl⟩)
    go_ret
    exact ⟨by simp [pktFault, *], gr_alloc (gr_refl _ _) _⟩
end Go.Proofs.Ytdknfhpconfhkaa

/- SamePacket says true of equal packets; sounded says true. Conditions: none. -/
import Derived.Test.YtdknfhpconfhkaaPktRead2
import Derived.ChangeKeysEq
namespace Go.Proofs.Ytdknfhpconfhkaa
open Go.RowKit

theorem eql4 (a b c d : Int) (w : World) : (Op.equalIn 10000 96 (.agg #[.int .i64 a, .int .i64 b, .int .i64 c, .int .i64 d]) (.agg #[.int .i64 a, .int .i64 b, .int .i64 c, .int .i64 d])).run Try.prog w = .ok true w := by
  have hi : ∃ i, Try.prog.info? 3 = some i := by
    cases h : Try.prog.info? 3 with
    | none => exact absurd h (by intro h; have : (Try.prog.info? 3).isSome = true := by kernel_rfl
                                 rw [h] at this; cases this)
    | some i => exact ⟨i, rfl⟩
  obtain ⟨i, hi⟩ := hi
  have hc : Try.prog.cellsOf 3 = 1 := by kernel_rfl
  have hp : ∀ (cs : Array Value) (j : Nat) (v : Value) (w : World), cs[j]? = some v → (part 3 cs j).run Try.prog w = .ok v w := by
    intro cs j v w h
    simp [part, isAgg, run_underlying Try.underlying3, h]
  rw [run_equalIn_array w 9999 _ _ Try.underlying96 hi, hc]
  simp [Op.eqItems, List.range, List.range.loop, hp, run_equalIn_int w _ 3 .i64 .i64 _ _ Try.underlying3]

theorem bdrew {w : World} (k : Nat) : w.grownBy (w.drewN k) none := gr_drewN (gr_refl _ _) k

set_option maxRecDepth 100000 in
set_option maxHeartbeats 2000000 in
theorem samePacket_same (ty sq tm sr : Int) (mk : Bool) (lo lo' : Nat) (A A' : Option Addr) (n c n' c' : Nat) (l : List Int) (w : World) (h1 : Ints .u8 w lo A n c l) (h2 : Ints .u8 w lo' A' n' c' l) (hn : n ≤ 1000000000000) :
    Calls Try.prog 18 #[.agg #[.int .i64 ty, .int .i64 sq, .int .i64 tm, .int .i64 sr, .bool mk, .slice A n c], .agg #[.int .i64 ty, .int .i64 sq, .int .i64 tm, .int .i64 sr, .bool mk, .slice A' n' c']] w (RetV (.bool true) w) := by
  have H1 := Lib.hid h1; have H2 := Lib.hid h2; clear h1 h2
  have he := eql4 ty sq tm sr
  go_enter Try.func18, Try.ntmps18
  go_wp2_with (first
    | (go_at_call 17
       refine (equalB_any lo lo' _ _ _ _ _ _ l l _ ((H1.out.alloc _).alloc _) ((H2.out.alloc _).alloc _) hn).mono ?_
       rintro e w' ⟨rfl, k, rfl⟩)
    | fail)
  go_ret
  exact ⟨by simp, gr_drewN (gr_alloc (gr_alloc (gr_refl _ _) _) _) _⟩

set_option maxHeartbeats 2000000 in
theorem sounded_true (w : World) : Calls Try.prog 19 #[] w (Same (.bool true) w) := by
  go_enter Try.func19, Try.ntmps19
  go_wp2
  go_ret
  exact ⟨rfl, rfl⟩
end Go.Proofs.Ytdknfhpconfhkaa

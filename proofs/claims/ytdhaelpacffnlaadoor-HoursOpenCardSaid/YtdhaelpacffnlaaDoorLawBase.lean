/- What the laws share: the numbers that came in, as a stream. Conditions: none. -/
import Derived.Test.YtdhaelpacffnlaaDoorStream
namespace Go.Proofs.YtdhaelpacffnlaaDoor
open Go.RowKit

/-- What a walk is told of a slice of integers that came in: it is nil; or it leads to a row of 'cap' cells, the numbers 'zs'. -/
def IsRow (k : IntKind) (w : World) (a : Option Addr) (len cap : Nat) (zs : List Int) : Prop :=
  (a = none ∧ len = 0 ∧ cap = 0 ∧ zs = []) ∨
  ∃ x, a = some x ∧ len ≤ cap ∧ cap ≤ maxLen ∧ zs.length = cap ∧ (∀ i, i < zs.length → w.cell? (x.add i) = some (.int k (zs.getD i 0))) ∧ ∀ n ∈ zs, (Lit.int k n).wf = true

theorem addr_none {w : World} {x : Addr} {v : Value} (h : w.cell? x = some v) : x.spot = none := by
  unfold World.cell? at h
  split at h
  · split at h
    · cases h
    · rename_i hs; simpa using hs
  · cases h

/-- The stream, as it is made: nothing has been drawn. -/
theorem str_new {w : World} {a : Option Addr} {len cap : Nat} {zs : List Int} (h : IsRow .i64 w a len cap zs) : Str (w.alloc (.cells #[.slice a len cap, .int .i64 0] 25)) w.heap.size 0 := by
  refine ⟨a, len, cap, 0, by omega, by omega, ?_, Blk.new _ _ _, fun hl => ?_⟩
  · rcases h with ⟨_, rfl, _, _⟩ | ⟨x, _, h1, h2, _⟩
    · omega
    · unfold maxLen at h2; omega
  · rcases h with ⟨_, rfl, _, _⟩ | ⟨x, rfl, h1, h2, h3, h4, _⟩
    · omega
    · have h0 := h4 0 (by omega)
      have hx : x = ⟨x.block, x.off, none⟩ := by
        have := addr_none (show w.cell? x = some _ from by simpa [Addr.add] using h0)
        cases x; simp_all
      have hb : x.block < w.heap.size := World.block_lt_of_cell? w x (show w.cell? x = some _ from by simpa [Addr.add] using h0)
      refine ⟨x.block, x.off, by rw [← hx], hb, fun i hi => ⟨zs.getD i 0, ?_⟩⟩
      have hi' := h4 i (by omega)
      rw [hx, add_mk] at hi'
      exact (World.cell?_alloc_lt _ _ ⟨x.block, x.off + i, none⟩ hb).trans hi'

/-- What a law owes of old memory: only the stream's own block, which is new, has been written. -/
theorem below_of_gr {w w' : World} (h : w.grownBy w' (some w.heap.size)) : Below w.heap.size w w' :=
  ⟨h.os, h.tape, h.output, h.size, fun k hk => h.block k hk (fun e => by injection e with e; omega)⟩
end Go.Proofs.YtdhaelpacffnlaaDoor

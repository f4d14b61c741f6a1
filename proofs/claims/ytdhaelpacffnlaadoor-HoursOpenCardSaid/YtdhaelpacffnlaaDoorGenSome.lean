/- Contract of the generator of strings Some. Conditions: none. -/
import Derived.Test.YtdhaelpacffnlaaDoorStream
import Derived.Test.YtdhaelpacffnlaaDoorRet
import Derived.Test.YtdhaelpacffnlaaDoorStrs
namespace Go.Proofs.YtdhaelpacffnlaaDoor
open Go.RowKit

/-- A string of at most so many bytes. -/
def StrBd (m : Nat) (v : Value) (_ : World) : Prop := ∃ s : ByteArray, v = .string s ∧ s.size ≤ m
/-- Cells that are such strings. -/
def StrsOk (k : Nat) (cs : List Value) : Prop := ∀ v ∈ cs, ∃ s : ByteArray, v = .string s ∧ s.size ≤ k
theorem StrsOk.nil (k : Nat) : StrsOk k [] := fun v hv => by cases hv
theorem StrsOk.cons {k : Nat} {s : ByteArray} {cs : List Value} (hs : s.size ≤ k) (h : StrsOk k cs) : StrsOk k (.string s :: cs) := by
  intro v hv
  rcases List.mem_cons.1 hv with rfl | hv
  · exact ⟨s, rfl, hs⟩
  · exact h v hv
set_option maxHeartbeats 2000000 in
theorem some_new (sb : Nat) (m : Int) (k : Nat) (W : World) (hs : Str W sb m) (hm : m ≤ 1152921504606846976) {g n : Nat} {cs : Array Value} (hg : W.heap.size = g) (hcs : StrsOk k cs.toList) (hn : cs.size = n) (h0 : 1 ≤ n) (h1 : n ≤ 1000) :
    Calls Tryd.prog 21 #[.pointer (some ⟨sb, 0, none⟩), .slice (some ⟨g, 0, none⟩) n n] (W.alloc (.cells cs 9)) (Drawn sb (m + 1) (StrBd k) W) := by
  subst hg
  have hlt := hs.lt
  have HS := Lib.hid (hs.alloc (.cells cs 9))
  have HB := Lib.hid (Blk.new W 9 cs)
  have HG := Lib.hid (gr_alloc (gr_refl W (some sb)) (.cells cs 9))
  have HCS := Lib.hid hcs; have HN := Lib.hid hn
  clear hs hcs hn
  generalize hW : W.alloc (.cells cs 9) = W1 at *
  clear hW
  go_enter Tryd.func21, Tryd.ntmps21
  go_wp2_with fail
  refine (next_any sb m _ _ HS.out hm (by omega) (by omega)).mono ?_
  rintro e w' ⟨v, rfl, ⟨r, hr1, hr2, rfl⟩, hs', hg'⟩
  have hr3 : r.toNat < cs.toList.length := by rw [Array.length_toList, HN.out]; omega
  obtain ⟨s, hs1, hs2⟩ := HCS.out _ (List.getElem_mem hr3)
  have hc : w'.cell? ⟨W.heap.size, r.toNat, none⟩ = some (.string s) := by
    rw [(HB.out.grown hg' (by simp; omega)).cell, ← hs1]
    rw [Array.getElem?_eq_getElem (by simpa using hr3)]
    simp
  have H' := Lib.hid hs'; clear hs'
  have HG' := Lib.hid (gr_same HG.out hg'); clear hg'
  go_wp2_with fail
  go_ret
  exact ⟨_, rfl, ⟨s, rfl, hs2⟩, H'.out, HG'.out⟩
end Go.Proofs.YtdhaelpacffnlaaDoor

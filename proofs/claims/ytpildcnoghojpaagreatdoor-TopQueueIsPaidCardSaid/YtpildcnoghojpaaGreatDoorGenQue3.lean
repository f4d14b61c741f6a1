/- Contract of the generator RightAgents. Conditions: none. -/
import Derived.Test.YtpildcnoghojpaaGreatDoorGenQue1
import Derived.Deep.RegionLaw
namespace Go.Proofs.YtpildcnoghojpaaGreatDoor
open Go.RowKit

theorem pick_newD (sb : Nat) (m : Int) (l : List Int) (W : World) (hs : Str W sb m) (hm : m ≤ 1152921504606846976) {g n : Nat} {cs : Array Value} (hg : W.heap.size = g) (hcs : cs = (l.map (Value.int .i64)).toArray) (hn : l.length = n) (h0 : 1 ≤ n) (h1 : n ≤ 4611686018427387904) :
    Calls Tryz.prog 14 #[.pointer (some ⟨sb, 0, none⟩), .slice (some ⟨g, 0, none⟩) n n] (W.alloc (.cells cs 3)).drew (Drawn sb (m + 1) (IntOf l) W) := by
  refine Calls.mono (show Calls Tryz.prog 14 #[.pointer (some ⟨sb, 0, none⟩), .slice (some ⟨g, 0, none⟩) n n] (W.alloc (.cells cs 3)).drew (Drawn sb (m + 1) (IntOf l) W.drew) from pick_new sb m l W.drew hs.drew hm hg hcs hn h0 h1) ?_
  rintro e w' ⟨v, rfl, hv, hs', hg'⟩
  exact ⟨v, rfl, hv, hs', gr_same (gr_drew (gr_refl _ _)) hg'⟩
theorem AgN.pause {a : AgV} (h : AgN a) {y : Int × Int} (hy : 0 ≤ y.1 ∧ y.1 ≤ y.2 ∧ y.2 ≤ 345686400000) {A : Option Addr} {n c : Nat} : AgN { a with pA := A, pn := n, pc := c, ps := a.ps ++ [y] } := by
  obtain ⟨h1, h2, h3, h4, h5, h6, h7⟩ := h
  refine ⟨h1, h2, h3, h4, h5, fun p hp => ?_, h7⟩
  rcases List.mem_append.1 hp with hp | hp
  · exact h6 p hp
  · rw [List.mem_singleton.1 hp]; exact hy
theorem AgN.skill {a : AgV} (h : AgN a) {y : ByteArray × Int} (hy : 0 ≤ y.2 ∧ y.2 ≤ 9) {A : Option Addr} {n c : Nat} : AgN { a with sA := A, sn := n, sc := c, sk := a.sk ++ [y] } := by
  obtain ⟨h1, h2, h3, h4, h5, h6, h7⟩ := h
  refine ⟨h1, h2, h3, h4, h5, h6, fun p hp => ?_⟩
  rcases List.mem_append.1 hp with hp | hp
  · exact h7 p hp
  · rw [List.mem_singleton.1 hp]; exact hy
end Go.Proofs.YtpildcnoghojpaaGreatDoor

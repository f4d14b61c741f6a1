/-
 DERIVED: THE SHELF's CONTRACTS AT THIS DUMP, IN PLAIN WORDS (tools/lay-plain.mjs out of 'TryzShelf.lean', which tools/lay-shelf.mjs wrote): THE SAME DECLARATIONS UNDER THE SAME NAMES: 'import', 'namespace', 'open', 'def', 'theorem' AND NOTHING ELSE: no command of the shelf's: FOR A HAND-IN. Each laying: the table of numbers ('.._ren') and one theorem, a field a fact of the dump's own or the kernel's comparison; each contract: ONE APPLICATION.
-/
import Derived.Shelf.Strings.Trim
import Derived.Shelf.Strings.SlTrimAscii
import Derived.Shelf.Small.Strs
import Derived.Shelf.Small.Wraps
import Derived.Test.YteppdabhloieaaaGreatDoorProg
namespace Go.Proofs
open Go.Shelf
def Tryz.lays160_ren : Go.Shelf.Ren := ⟨fun | 160 => 134 | 232 => 174 | 231 => 173 | 227 => 175 | 234 => 177 | 233 => 176 | 236 => 179 | 235 => 178 | 228 => 203 | 271 => 206 | 151 => 205 | 197 => 204 | 120 => 223 | 152 => 222 | 260 => 221 | 137 => 69 | 119 => 230 | 224 => 231 | 225 => 232 | 217 => 126 | 266 => 166 | n => n, fun | 9 => 9 | 4 => 4 | 3 => 3 | 5 => 5 | 117 => 225 | 116 => 224 | 0 => 0 | 124 => 228 | 21 => 21 | 105 => 250 | 46 => 151 | 119 => 272 | 139 => 275 | 138 => 274 | n => n, fun | 3 => 3 | 4 => 4 | n => n⟩
theorem Tryz.lays160 : Go.Proofs.Lays.n160 Tryz.prog Tryz.lays160_ren := {
 mixed := by kernel_rfl
 f119 := Tryz.func230.trans (congrArg some (by kernel_rfl))
 f120 := Tryz.func223.trans (congrArg some (by kernel_rfl))
 f137 := Tryz.func69.trans (congrArg some (by kernel_rfl))
 f151 := Tryz.func205.trans (congrArg some (by kernel_rfl))
 f152 := Tryz.func222.trans (congrArg some (by kernel_rfl))
 f160 := Tryz.func134.trans (congrArg some (by kernel_rfl))
 f197 := Tryz.func204.trans (congrArg some (by kernel_rfl))
 f217 := Tryz.func126.trans (congrArg some (by kernel_rfl))
 f224 := Tryz.func231.trans (congrArg some (by kernel_rfl))
 f225 := Tryz.func232.trans (congrArg some (by kernel_rfl))
 f227 := Tryz.func175.trans (congrArg some (by kernel_rfl))
 f228 := Tryz.func203.trans (congrArg some (by kernel_rfl))
 f231 := Tryz.func173.trans (congrArg some (by kernel_rfl))
 f232 := Tryz.func174.trans (congrArg some (by kernel_rfl))
 f233 := Tryz.func176.trans (congrArg some (by kernel_rfl))
 f234 := Tryz.func177.trans (congrArg some (by kernel_rfl))
 f235 := Tryz.func178.trans (congrArg some (by kernel_rfl))
 f236 := Tryz.func179.trans (congrArg some (by kernel_rfl))
 f260 := Tryz.func221.trans (congrArg some (by kernel_rfl))
 f266 := Tryz.func166.trans (congrArg some (by kernel_rfl))
 f271 := Tryz.func206.trans (congrArg some (by kernel_rfl))
 t0 := Tryz.underlying0
 a0 := Tryz.isAgg0
 z0 := Tryz.sizeOf0
 v0 := Tryz.zeroValue0
 t3 := Tryz.underlying3
 a3 := Tryz.isAgg3
 z3 := Tryz.sizeOf3
 v3 := Tryz.zeroValue3
 t4 := Tryz.underlying4
 a4 := Tryz.isAgg4
 z4 := Tryz.sizeOf4
 v4 := Tryz.zeroValue4
 t5 := Tryz.underlying5
 a5 := Tryz.isAgg5
 z5 := Tryz.sizeOf5
 v5 := Tryz.zeroValue5
 t9 := Tryz.underlying9
 a9 := Tryz.isAgg9
 z9 := Tryz.sizeOf9
 v9 := Tryz.zeroValue9
 t21 := Tryz.underlying21
 a21 := Tryz.isAgg21
 z21 := Tryz.sizeOf21
 v21 := Tryz.zeroValue21
 t46 := Tryz.underlying151
 a46 := Tryz.isAgg151
 z46 := Tryz.sizeOf151
 v46 := Tryz.zeroValue151
 t105 := Tryz.underlying250
 a105 := Tryz.isAgg250
 z105 := Tryz.sizeOf250
 v105 := Tryz.zeroValue250
 t116 := Tryz.underlying224
 a116 := Tryz.isAgg224
 z116 := Tryz.sizeOf224
 t117 := Tryz.underlying225
 a117 := Tryz.isAgg225
 z117 := Tryz.sizeOf225
 v117 := Tryz.zeroValue225
 t119 := Tryz.underlying272
 a119 := Tryz.isAgg272
 z119 := Tryz.sizeOf272
 t124 := Tryz.underlying228
 a124 := Tryz.isAgg228
 z124 := Tryz.sizeOf228
 v124 := Tryz.zeroValue228
 t138 := Tryz.underlying274
 a138 := Tryz.isAgg274
 z138 := Tryz.sizeOf274
 v138 := Tryz.zeroValue274
 t139 := Tryz.underlying275
 a139 := Tryz.isAgg275
 z139 := Tryz.sizeOf275
 v139 := Tryz.zeroValue275
 g3 := by kernel_rfl
 g4 := by kernel_rfl }
open Go.RowKit in
def Tryz.lays106_ren : Go.Shelf.Ren := ⟨fun | 106 => 115 | 213 => 159 | 265 => 200 | n => n, fun | 9 => 9 | 3 => 3 | n => n, fun | n => n⟩
theorem Tryz.lays106 : Go.Proofs.Lays.n106 Tryz.prog Tryz.lays106_ren := {
 mixed := by kernel_rfl
 f106 := Tryz.func115.trans (congrArg some (by kernel_rfl))
 f213 := Tryz.func159.trans (congrArg some (by kernel_rfl))
 f265 := Tryz.func200.trans (congrArg some (by kernel_rfl))
 t3 := Tryz.underlying3
 a3 := Tryz.isAgg3
 z3 := Tryz.sizeOf3
 v3 := Tryz.zeroValue3
 t9 := Tryz.underlying9
 a9 := Tryz.isAgg9
 z9 := Tryz.sizeOf9
 v9 := Tryz.zeroValue9 }
open Go.RowKit in
theorem Tryz.strings_Compare (a b : ByteArray) (w : World) :
   Calls Tryz.prog 115 #[.string a, .string b] w fun e w' => e = .returned (.int .i64 (Lib.compareBytes a.data.toList b.data.toList)) ∧ w' = w := Any.strings_Compare Tryz.lays106 a b w
def Tryz.lays122_ren : Go.Shelf.Ren := ⟨fun | 122 => 114 | 215 => 158 | n => n, fun | 3 => 3 | 4 => 4 | n => n, fun | n => n⟩
theorem Tryz.lays122 : Go.Proofs.Lays.n122 Tryz.prog Tryz.lays122_ren := {
 mixed := by kernel_rfl
 f122 := Tryz.func114.trans (congrArg some (by kernel_rfl))
 f215 := Tryz.func158.trans (congrArg some (by kernel_rfl))
 t3 := Tryz.underlying3
 a3 := Tryz.isAgg3
 z3 := Tryz.sizeOf3
 v3 := Tryz.zeroValue3
 t4 := Tryz.underlying4
 a4 := Tryz.isAgg4
 z4 := Tryz.sizeOf4
 v4 := Tryz.zeroValue4 }
open Go.RowKit in
theorem Tryz.cmp_Compare_int (x y : Int) (w : World) :
   Calls Tryz.prog 114 #[.int .i64 x, .int .i64 y] w fun e w' => e = .returned (.int .i64 (Lib.compareInt x y)) ∧ w' = w := Any.cmp_Compare_int Tryz.lays122 x y w
end Go.Proofs

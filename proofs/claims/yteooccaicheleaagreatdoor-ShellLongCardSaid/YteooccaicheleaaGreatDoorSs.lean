/-
  DERIVED: THE SHELF's CONTRACTS AT THIS DUMP, IN PLAIN WORDS (tools/lay-plain.mjs out of 'YteooccaicheleaaGreatDoorSsRaw.lean', which tools/lay-shelf.mjs wrote): THE SAME DECLARATIONS UNDER THE SAME NAMES: 'import', 'namespace', 'open', 'def', 'theorem' AND NOTHING ELSE: no command of the shelf's: FOR A HAND-IN. Each laying: the table of numbers ('.._ren') and one theorem, a field a fact of the dump's own or the kernel's comparison; each contract: ONE APPLICATION.
-/
import Derived.Shelf.Strings.Split
import Derived.Ground.NamesProg
import Derived.Test.YteooccaicheleaaGreatDoorProg
namespace Go.Proofs
open Go.Shelf
def Tryz.laysSplit_ren : Go.Shelf.Ren := ⟨fun | 146 => 51 | 221 => 90 | 268 => 152 | 138 => 153 | 143 => 154 | 195 => 250 | 197 => 251 | 218 => 252 | 219 => 253 | 260 => 378 | 217 => 379 | 225 => 380 | 224 => 381 | 267 => 382 | 266 => 480 | 314 => 481 | n => n, fun | 9 => 9 | 31 => 26 | 3 => 3 | 4 => 4 | 0 => 0 | 105 => 427 | 21 => 21 | 5 => 5 | 46 => 506 | 119 => 646 | 139 => 649 | 138 => 648 | 146 => 650 | 51 => 208 | n => n, fun | 1 => 0 | 3 => 1 | 4 => 2 | n => n⟩
theorem Tryz.laysSplit : Go.Proofs.Lays.n146 Tryz.prog Tryz.laysSplit_ren := {
  mixed := by kernel_rfl
  f138 := Tryz.func153.trans (congrArg some (by kernel_rfl))
  f143 := Tryz.func154.trans (congrArg some (by kernel_rfl))
  f146 := Tryz.func51.trans (congrArg some (by kernel_rfl))
  f195 := Tryz.func250.trans (congrArg some (by kernel_rfl))
  f197 := Tryz.func251.trans (congrArg some (by kernel_rfl))
  f217 := Tryz.func379.trans (congrArg some (by kernel_rfl))
  f218 := Tryz.func252.trans (congrArg some (by kernel_rfl))
  f219 := Tryz.func253.trans (congrArg some (by kernel_rfl))
  f221 := Tryz.func90.trans (congrArg some (by kernel_rfl))
  f224 := Tryz.func381.trans (congrArg some (by kernel_rfl))
  f225 := Tryz.func380.trans (congrArg some (by kernel_rfl))
  f260 := Tryz.func378.trans (congrArg some (by kernel_rfl))
  f266 := Tryz.func480.trans (congrArg some (by kernel_rfl))
  f267 := Tryz.func382.trans (congrArg some (by kernel_rfl))
  f268 := Tryz.func152.trans (congrArg some (by kernel_rfl))
  f314 := Tryz.func481.trans (congrArg some (by kernel_rfl))
  t0 := Tryz.underlying0
  a0 := Tryz.isAgg0
  z0 := Tryz.sizeOf0
  v0 := Tryz.zeroValue0
  t3 := Tryz.underlying3
  a3 := Tryz.isAgg3
  z3 := Tryz.sizeOf3
  v3 := Tryz.zeroValue3
  t4 := Tryz.underlying4
  a4 := Tryz.isAgg4
  z4 := Tryz.sizeOf4
  v4 := Tryz.zeroValue4
  t5 := Tryz.underlying5
  a5 := Tryz.isAgg5
  z5 := Tryz.sizeOf5
  v5 := Tryz.zeroValue5
  t9 := Tryz.underlying9
  a9 := Tryz.isAgg9
  z9 := Tryz.sizeOf9
  v9 := Tryz.zeroValue9
  t21 := Tryz.underlying21
  a21 := Tryz.isAgg21
  z21 := Tryz.sizeOf21
  v21 := Tryz.zeroValue21
  t31 := Tryz.underlying26
  a31 := Tryz.isAgg26
  z31 := Tryz.sizeOf26
  v31 := Tryz.zeroValue26
  t46 := Tryz.underlying506
  a46 := Tryz.isAgg506
  z46 := Tryz.sizeOf506
  v46 := Tryz.zeroValue506
  t51 := Tryz.underlying208
  a51 := Tryz.isAgg208
  z51 := Tryz.sizeOf208
  v51 := Tryz.zeroValue208
  t105 := Tryz.underlying427
  a105 := Tryz.isAgg427
  z105 := Tryz.sizeOf427
  v105 := Tryz.zeroValue427
  t119 := Tryz.underlying646
  a119 := Tryz.isAgg646
  z119 := Tryz.sizeOf646
  t138 := Tryz.underlying648
  a138 := Tryz.isAgg648
  z138 := Tryz.sizeOf648
  v138 := Tryz.zeroValue648
  t139 := Tryz.underlying649
  a139 := Tryz.isAgg649
  z139 := Tryz.sizeOf649
  v139 := Tryz.zeroValue649
  t146 := Tryz.underlying650
  a146 := Tryz.isAgg650
  z146 := Tryz.sizeOf650
  v146 := Tryz.zeroValue650
  g1 := by kernel_rfl
  g3 := by kernel_rfl
  g4 := by kernel_rfl }
end Go.Proofs

/-
  The shelf contract of utf8.ValidString, laid at this program (written by the kit tool lay-plain).
-/
import Derived.Shelf.Unicode.ValidAny
import Derived.Test.YtdhkebolenbpiaaGreatDoorProg
namespace Go.Proofs
open Go.Shelf
def Tryz.laysValid_ren : Go.Shelf.Ren := ⟨fun | 196 => 363 | 259 => 399 | n => n, fun | 9 => 9 | 4 => 4 | 3 => 3 | 5 => 5 | 12 => 12 | 119 => 577 | 0 => 0 | 46 => 428 | 139 => 580 | 138 => 579 | 53 => 316 | n => n, fun | 3 => 2 | 4 => 3 | n => n⟩
theorem Tryz.laysValid : Go.Proofs.Lays.n196 Tryz.prog Tryz.laysValid_ren := {
  mixed := by kernel_rfl
  f196 := Tryz.func363.trans (congrArg some (by kernel_rfl))
  f259 := Tryz.func399.trans (congrArg some (by kernel_rfl))
  t0 := Tryz.underlying0
  a0 := Tryz.isAgg0
  z0 := Tryz.sizeOf0
  v0 := Tryz.zeroValue0
  t3 := Tryz.underlying3
  a3 := Tryz.isAgg3
  z3 := Tryz.sizeOf3
  v3 := Tryz.zeroValue3
  t4 := Tryz.underlying4
  a4 := Tryz.isAgg4
  z4 := Tryz.sizeOf4
  v4 := Tryz.zeroValue4
  t5 := Tryz.underlying5
  a5 := Tryz.isAgg5
  z5 := Tryz.sizeOf5
  v5 := Tryz.zeroValue5
  t9 := Tryz.underlying9
  a9 := Tryz.isAgg9
  z9 := Tryz.sizeOf9
  v9 := Tryz.zeroValue9
  t12 := Tryz.underlying12
  a12 := Tryz.isAgg12
  z12 := Tryz.sizeOf12
  v12 := Tryz.zeroValue12
  t46 := Tryz.underlying428
  a46 := Tryz.isAgg428
  z46 := Tryz.sizeOf428
  v46 := Tryz.zeroValue428
  t53 := Tryz.underlying316
  a53 := Tryz.isAgg316
  z53 := Tryz.sizeOf316
  v53 := Tryz.zeroValue316
  t119 := Tryz.underlying577
  a119 := Tryz.isAgg577
  z119 := Tryz.sizeOf577
  t138 := Tryz.underlying579
  a138 := Tryz.isAgg579
  z138 := Tryz.sizeOf579
  v138 := Tryz.zeroValue579
  t139 := Tryz.underlying580
  a139 := Tryz.isAgg580
  z139 := Tryz.sizeOf580
  v139 := Tryz.zeroValue580
  g3 := by kernel_rfl
  g4 := by kernel_rfl }
end Go.Proofs

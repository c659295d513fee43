/- strings.Join, as the shelf has it, is a known call. -/
import Derived.Test.YtkmjdfcfcfmkdaaGreatDoorKmt
import Derived.Test.YtkmjdfcfcfmkdaaGreatDoorSj
import Derived.WalkKit
import Derived.ProofKit
namespace Go.Proofs.YtkmjdfcfcfmkdaaGreatDoor.X
open Go.Shelf Go.RowKit
theorem joinExtra : Builder.Extra Tryz.prog Tryz.laysJoin_ren where
  sizeBuilder := by kernel_rfl
  liesBuilder := by kernel_rfl
  t5 := Tryz.underlying5
  a5 := Tryz.isAgg5
  z5 := Tryz.sizeOf5
  v5 := Tryz.zeroValue5
  infoByte := by kernel_rfl
  cellsByte := by kernel_rfl
  sizeByte := by kernel_rfl
  neB5 := by decide
theorem joinC : JoinC Tryz.prog 20 := fun bk o c xs sep w h1 h2 h3 h4 h5 => Any.strings_Join Tryz.laysJoin joinExtra bk o c xs sep w h1 h2 h3 h4 h5
end Go.Proofs.YtkmjdfcfcfmkdaaGreatDoor.X

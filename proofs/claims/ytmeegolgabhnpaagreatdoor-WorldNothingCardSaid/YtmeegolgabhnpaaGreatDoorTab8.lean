/- The tables of unicode/utf8, as a row lists them, lie as the library's laws ask. -/
import Derived.Test.YtmeegolgabhnpaaGreatDoorKlt
import Derived.Lib.LaidIn
import Derived.Lib.LaidU8T
import Derived.WalkKit
import Derived.ProofKit
namespace Go.Proofs.YtmeegolgabhnpaaGreatDoor
open Go.Shelf Go.Lib
def ren8 : Go.Shelf.Ren := ⟨fun x => x, fun x => match x with | 5 => 5 | 119 => 659 | 138 => 661 | 139 => 662 | _ => 0, fun x => x⟩
theorem types8 : U8Types Tryz.prog ren8 := ⟨by kernel_rfl, by kernel_rfl, by kernel_rfl, by kernel_rfl⟩
theorem tabs8 {W : World} (hF : VarReads Tryz.prog W "unicode/utf8.first" Lib.firstData) (hA : VarReads Tryz.prog W "unicode/utf8.acceptRanges" Lib.acceptData) : Tabs W :=
  utf8Tabs_of_readsT types8 ⟨by kernel_rfl, by kernel_rfl, by kernel_rfl, by kernel_rfl, by kernel_rfl, by kernel_rfl, by kernel_rfl⟩ hF hA
end Go.Proofs.YtmeegolgabhnpaaGreatDoor

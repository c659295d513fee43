/- The tables of unicode/utf8, as a row lists them, lie as the library's laws ask. -/
import Derived.Test.YtdhkebolenbpiaaGreatDoorKmt
import Derived.Lib.LaidIn
import Derived.Lib.LaidU8T
import Derived.WalkKit
import Derived.ProofKit
namespace Go.Proofs.YtdhkebolenbpiaaGreatDoor
open Go.Shelf Go.Lib
def ren8 : Go.Shelf.Ren := ⟨fun x => x, fun x => match x with | 5 => 5 | 119 => 577 | 138 => 579 | 139 => 580 | _ => 0, fun x => match x with | 3 => 2 | 4 => 3 | _ => 0⟩
theorem types8 : U8Types Tryz.prog ren8 := ⟨by kernel_rfl, by kernel_rfl, by kernel_rfl, by kernel_rfl⟩
theorem tabs8 {W : World} (hF : VarReads Tryz.prog W "unicode/utf8.first" Lib.firstData) (hA : VarReads Tryz.prog W "unicode/utf8.acceptRanges" Lib.acceptData) : Tabs W :=
  utf8Tabs_of_readsT types8 ⟨by kernel_rfl, by kernel_rfl, by kernel_rfl, by kernel_rfl, by kernel_rfl, by kernel_rfl, by kernel_rfl⟩ hF hA
theorem i64_wf9 {n : Int} (h : (Lit.int .i64 n).wf = true) : -9223372036854775808 ≤ n ∧ n ≤ 9223372036854775807 := by
  have h1 : IntKind.i64.min ≤ n ∧ n ≤ IntKind.i64.max := by simpa [Lit.wf] using h
  have e1 : IntKind.i64.min = -9223372036854775808 := rfl
  have e2 : IntKind.i64.max = 9223372036854775807 := rfl
  rw [e1, e2] at h1
  exact h1
end Go.Proofs.YtdhkebolenbpiaaGreatDoor

/- Count, IndexByte: known calls. -/
import Derived.Test.YtkmjdfcfcfmkdaaGreatDoorKmt
import Derived.Test.YtkmjdfcfcfmkdaaGreatDoorSc
import Derived.WalkKit
import Derived.ProofKit
namespace Go.Proofs.YtkmjdfcfcfmkdaaGreatDoor.X
open Go.Shelf Go.RowKit
theorem cntC : CntC Tryz.prog 22 := fun s x w => (Any.strings_Count_one Tryz.laysCount s x w).mono fun _ _ h => ⟨h.1, h.2 ▸ Below.refl _ _⟩
theorem idxC : IdxC Tryz.prog 99 := fun s x w hx => by
  have hc : ∀ w, (callFunc 161 #[.string s, .int .u8 x]).run Tryz.prog w = .ok (.value (.int .i64 (Lib.indexByte s.data.toList (UInt8.ofNat x)))) w := fun w => by
    rw [run_callFunc_extern Tryz.func161 (by kernel_rfl) (by kernel_rfl) (by kernel_rfl) (e := Extern.BytealgIndexByte.indexByte) (by kernel_rfl), Lib.run_indexByteString]
    rfl
  go_enter Tryz.func99, Tryz.ntmps99
  go_wp2
  go_ret
  exact ⟨rfl, Below.refl _ _⟩
end Go.Proofs.YtkmjdfcfcfmkdaaGreatDoor.X

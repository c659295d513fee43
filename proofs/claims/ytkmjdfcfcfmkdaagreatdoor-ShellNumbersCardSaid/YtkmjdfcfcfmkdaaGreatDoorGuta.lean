/- ShellNumbers: numbers of one length. -/
import Derived.Test.YtkmjdfcfcfmkdaaGreatDoorGuk
namespace Go.Proofs.YtkmjdfcfcfmkdaaGreatDoor.X
open Go.RowKit S
theorem sn0_0 : snRun (.int .i64 0) (.int .i64 0) = true := by kernel_rfl
theorem sn0_1 : snRun (.int .i64 0) (.int .i64 1) = true := by kernel_rfl
theorem sn0_2 : snRun (.int .i64 0) (.int .i64 2) = true := by kernel_rfl
theorem sn0_3 : snRun (.int .i64 0) (.int .i64 3) = true := by kernel_rfl
theorem sn0_4 : snRun (.int .i64 0) (.int .i64 4) = true := by kernel_rfl
theorem sn0_5 : snRun (.int .i64 0) (.int .i64 5) = true := by kernel_rfl
theorem sn0_6 : snRun (.int .i64 0) (.int .i64 6) = true := by kernel_rfl
theorem sn0_7 : snRun (.int .i64 0) (.int .i64 7) = true := by kernel_rfl
theorem sn0_n (m : Nat) : snRun (.int .i64 0) (.int .i64 (Int.negSucc m)) = true := by kernel_rfl
theorem sn0_p (m : Nat) : snRun (.int .i64 0) (.int .i64 (Int.ofNat (m + 8))) = true := by kernel_rfl
theorem sn0 : ∀ y : Int, snRun (.int .i64 0) (.int .i64 y) = true
  | .negSucc m => sn0_n m
  | .ofNat 0 => sn0_0
  | .ofNat 1 => sn0_1
  | .ofNat 2 => sn0_2
  | .ofNat 3 => sn0_3
  | .ofNat 4 => sn0_4
  | .ofNat 5 => sn0_5
  | .ofNat 6 => sn0_6
  | .ofNat 7 => sn0_7
  | .ofNat (m + 8) => sn0_p m
end Go.Proofs.YtkmjdfcfcfmkdaaGreatDoor.X

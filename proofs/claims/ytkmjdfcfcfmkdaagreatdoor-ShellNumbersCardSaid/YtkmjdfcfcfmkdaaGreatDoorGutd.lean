/- ShellNumbers: numbers of one length. -/
import Derived.Test.YtkmjdfcfcfmkdaaGreatDoorGuk
namespace Go.Proofs.YtkmjdfcfcfmkdaaGreatDoor.X
open Go.RowKit S
theorem sn3_0 : snRun (.complex .f32 20 339942084554017525001755907231707398406145) (.int .i64 0) = true := by kernel_rfl
theorem sn3_1 : snRun (.complex .f32 20 339942084554017525001755907231707398406145) (.int .i64 1) = true := by kernel_rfl
theorem sn3_2 : snRun (.complex .f32 20 339942084554017525001755907231707398406145) (.int .i64 2) = true := by kernel_rfl
theorem sn3_3 : snRun (.complex .f32 20 339942084554017525001755907231707398406145) (.int .i64 3) = true := by kernel_rfl
theorem sn3_4 : snRun (.complex .f32 20 339942084554017525001755907231707398406145) (.int .i64 4) = true := by kernel_rfl
theorem sn3_5 : snRun (.complex .f32 20 339942084554017525001755907231707398406145) (.int .i64 5) = true := by kernel_rfl
theorem sn3_6 : snRun (.complex .f32 20 339942084554017525001755907231707398406145) (.int .i64 6) = true := by kernel_rfl
theorem sn3_7 : snRun (.complex .f32 20 339942084554017525001755907231707398406145) (.int .i64 7) = true := by kernel_rfl
theorem sn3_n (m : Nat) : snRun (.complex .f32 20 339942084554017525001755907231707398406145) (.int .i64 (Int.negSucc m)) = true := by kernel_rfl
theorem sn3_p (m : Nat) : snRun (.complex .f32 20 339942084554017525001755907231707398406145) (.int .i64 (Int.ofNat (m + 8))) = true := by kernel_rfl
theorem sn3 : ∀ y : Int, snRun (.complex .f32 20 339942084554017525001755907231707398406145) (.int .i64 y) = true
  | .negSucc m => sn3_n m
  | .ofNat 0 => sn3_0
  | .ofNat 1 => sn3_1
  | .ofNat 2 => sn3_2
  | .ofNat 3 => sn3_3
  | .ofNat 4 => sn3_4
  | .ofNat 5 => sn3_5
  | .ofNat 6 => sn3_6
  | .ofNat 7 => sn3_7
  | .ofNat (m + 8) => sn3_p m
end Go.Proofs.YtkmjdfcfcfmkdaaGreatDoor.X

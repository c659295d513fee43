/- ShellNumbers: numbers of one length. -/
import Derived.Test.YtkmjdfcfcfmkdaaGreatDoorGuk
namespace Go.Proofs.YtkmjdfcfcfmkdaaGreatDoor.X
open Go.RowKit S
theorem sn7_0 : snRun (.complex .f32 20 3402823328927017713713729355016784234407788545) (.int .i64 0) = true := by kernel_rfl
theorem sn7_1 : snRun (.complex .f32 20 3402823328927017713713729355016784234407788545) (.int .i64 1) = true := by kernel_rfl
theorem sn7_2 : snRun (.complex .f32 20 3402823328927017713713729355016784234407788545) (.int .i64 2) = true := by kernel_rfl
theorem sn7_3 : snRun (.complex .f32 20 3402823328927017713713729355016784234407788545) (.int .i64 3) = true := by kernel_rfl
theorem sn7_4 : snRun (.complex .f32 20 3402823328927017713713729355016784234407788545) (.int .i64 4) = true := by kernel_rfl
theorem sn7_5 : snRun (.complex .f32 20 3402823328927017713713729355016784234407788545) (.int .i64 5) = true := by kernel_rfl
theorem sn7_6 : snRun (.complex .f32 20 3402823328927017713713729355016784234407788545) (.int .i64 6) = true := by kernel_rfl
theorem sn7_7 : snRun (.complex .f32 20 3402823328927017713713729355016784234407788545) (.int .i64 7) = true := by kernel_rfl
theorem sn7_n (m : Nat) : snRun (.complex .f32 20 3402823328927017713713729355016784234407788545) (.int .i64 (Int.negSucc m)) = true := by kernel_rfl
theorem sn7_p (m : Nat) : snRun (.complex .f32 20 3402823328927017713713729355016784234407788545) (.int .i64 (Int.ofNat (m + 8))) = true := by kernel_rfl
theorem sn7 : ∀ y : Int, snRun (.complex .f32 20 3402823328927017713713729355016784234407788545) (.int .i64 y) = true
  | .negSucc m => sn7_n m
  | .ofNat 0 => sn7_0
  | .ofNat 1 => sn7_1
  | .ofNat 2 => sn7_2
  | .ofNat 3 => sn7_3
  | .ofNat 4 => sn7_4
  | .ofNat 5 => sn7_5
  | .ofNat 6 => sn7_6
  | .ofNat 7 => sn7_7
  | .ofNat (m + 8) => sn7_p m
end Go.Proofs.YtkmjdfcfcfmkdaaGreatDoor.X

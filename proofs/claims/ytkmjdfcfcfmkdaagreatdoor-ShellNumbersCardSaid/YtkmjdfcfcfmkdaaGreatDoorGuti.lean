/- ShellNumbers: numbers of one length. -/
import Derived.Test.YtkmjdfcfcfmkdaaGreatDoorGuk
namespace Go.Proofs.YtkmjdfcfcfmkdaaGreatDoor.X
open Go.RowKit S
theorem sn8_0 : snRun (.complex .f32 20 34028236351811479425583464720539309229991788545) (.int .i64 0) = true := by kernel_rfl
theorem sn8_1 : snRun (.complex .f32 20 34028236351811479425583464720539309229991788545) (.int .i64 1) = true := by kernel_rfl
theorem sn8_2 : snRun (.complex .f32 20 34028236351811479425583464720539309229991788545) (.int .i64 2) = true := by kernel_rfl
theorem sn8_3 : snRun (.complex .f32 20 34028236351811479425583464720539309229991788545) (.int .i64 3) = true := by kernel_rfl
theorem sn8_4 : snRun (.complex .f32 20 34028236351811479425583464720539309229991788545) (.int .i64 4) = true := by kernel_rfl
theorem sn8_5 : snRun (.complex .f32 20 34028236351811479425583464720539309229991788545) (.int .i64 5) = true := by kernel_rfl
theorem sn8_6 : snRun (.complex .f32 20 34028236351811479425583464720539309229991788545) (.int .i64 6) = true := by kernel_rfl
theorem sn8_7 : snRun (.complex .f32 20 34028236351811479425583464720539309229991788545) (.int .i64 7) = true := by kernel_rfl
theorem sn8_n (m : Nat) : snRun (.complex .f32 20 34028236351811479425583464720539309229991788545) (.int .i64 (Int.negSucc m)) = true := by kernel_rfl
theorem sn8_p (m : Nat) : snRun (.complex .f32 20 34028236351811479425583464720539309229991788545) (.int .i64 (Int.ofNat (m + 8))) = true := by kernel_rfl
theorem sn8 : ∀ y : Int, snRun (.complex .f32 20 34028236351811479425583464720539309229991788545) (.int .i64 y) = true
  | .negSucc m => sn8_n m
  | .ofNat 0 => sn8_0
  | .ofNat 1 => sn8_1
  | .ofNat 2 => sn8_2
  | .ofNat 3 => sn8_3
  | .ofNat 4 => sn8_4
  | .ofNat 5 => sn8_5
  | .ofNat 6 => sn8_6
  | .ofNat 7 => sn8_7
  | .ofNat (m + 8) => sn8_p m
end Go.Proofs.YtkmjdfcfcfmkdaaGreatDoor.X

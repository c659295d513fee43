/- ShellNumbers: numbers of one length. -/
import Derived.Test.YtkmjdfcfcfmkdaaGreatDoorGuk
namespace Go.Proofs.YtkmjdfcfcfmkdaaGreatDoor.X
open Go.RowKit S
theorem sn6_0 : snRun (.complex .f32 20 340282026638571542526755818464531734849388545) (.int .i64 0) = true := by kernel_rfl
theorem sn6_1 : snRun (.complex .f32 20 340282026638571542526755818464531734849388545) (.int .i64 1) = true := by kernel_rfl
theorem sn6_2 : snRun (.complex .f32 20 340282026638571542526755818464531734849388545) (.int .i64 2) = true := by kernel_rfl
theorem sn6_3 : snRun (.complex .f32 20 340282026638571542526755818464531734849388545) (.int .i64 3) = true := by kernel_rfl
theorem sn6_4 : snRun (.complex .f32 20 340282026638571542526755818464531734849388545) (.int .i64 4) = true := by kernel_rfl
theorem sn6_5 : snRun (.complex .f32 20 340282026638571542526755818464531734849388545) (.int .i64 5) = true := by kernel_rfl
theorem sn6_6 : snRun (.complex .f32 20 340282026638571542526755818464531734849388545) (.int .i64 6) = true := by kernel_rfl
theorem sn6_7 : snRun (.complex .f32 20 340282026638571542526755818464531734849388545) (.int .i64 7) = true := by kernel_rfl
theorem sn6_n (m : Nat) : snRun (.complex .f32 20 340282026638571542526755818464531734849388545) (.int .i64 (Int.negSucc m)) = true := by kernel_rfl
theorem sn6_p (m : Nat) : snRun (.complex .f32 20 340282026638571542526755818464531734849388545) (.int .i64 (Int.ofNat (m + 8))) = true := by kernel_rfl
theorem sn6 : ∀ y : Int, snRun (.complex .f32 20 340282026638571542526755818464531734849388545) (.int .i64 y) = true
  | .negSucc m => sn6_n m
  | .ofNat 0 => sn6_0
  | .ofNat 1 => sn6_1
  | .ofNat 2 => sn6_2
  | .ofNat 3 => sn6_3
  | .ofNat 4 => sn6_4
  | .ofNat 5 => sn6_5
  | .ofNat 6 => sn6_6
  | .ofNat 7 => sn6_7
  | .ofNat (m + 8) => sn6_p m
end Go.Proofs.YtkmjdfcfcfmkdaaGreatDoor.X

/- ShellNumbers: numbers of one length. -/
import Derived.Test.YtkmjdfcfcfmkdaaGreatDoorGuk
namespace Go.Proofs.YtkmjdfcfcfmkdaaGreatDoor.X
open Go.RowKit S
theorem sn2_0 : snRun (.complex .f32 20 33687954325172907883058553576482148450305) (.int .i64 0) = true := by kernel_rfl
theorem sn2_1 : snRun (.complex .f32 20 33687954325172907883058553576482148450305) (.int .i64 1) = true := by kernel_rfl
theorem sn2_2 : snRun (.complex .f32 20 33687954325172907883058553576482148450305) (.int .i64 2) = true := by kernel_rfl
theorem sn2_3 : snRun (.complex .f32 20 33687954325172907883058553576482148450305) (.int .i64 3) = true := by kernel_rfl
theorem sn2_4 : snRun (.complex .f32 20 33687954325172907883058553576482148450305) (.int .i64 4) = true := by kernel_rfl
theorem sn2_5 : snRun (.complex .f32 20 33687954325172907883058553576482148450305) (.int .i64 5) = true := by kernel_rfl
theorem sn2_6 : snRun (.complex .f32 20 33687954325172907883058553576482148450305) (.int .i64 6) = true := by kernel_rfl
theorem sn2_7 : snRun (.complex .f32 20 33687954325172907883058553576482148450305) (.int .i64 7) = true := by kernel_rfl
theorem sn2_n (m : Nat) : snRun (.complex .f32 20 33687954325172907883058553576482148450305) (.int .i64 (Int.negSucc m)) = true := by kernel_rfl
theorem sn2_p (m : Nat) : snRun (.complex .f32 20 33687954325172907883058553576482148450305) (.int .i64 (Int.ofNat (m + 8))) = true := by kernel_rfl
theorem sn2 : ∀ y : Int, snRun (.complex .f32 20 33687954325172907883058553576482148450305) (.int .i64 y) = true
  | .negSucc m => sn2_n m
  | .ofNat 0 => sn2_0
  | .ofNat 1 => sn2_1
  | .ofNat 2 => sn2_2
  | .ofNat 3 => sn2_3
  | .ofNat 4 => sn2_4
  | .ofNat 5 => sn2_5
  | .ofNat 6 => sn2_6
  | .ofNat 7 => sn2_7
  | .ofNat (m + 8) => sn2_p m
end Go.Proofs.YtkmjdfcfcfmkdaaGreatDoor.X

/- ShellNumbers: numbers of one length. -/
import Derived.Test.YtkmjdfcfcfmkdaaGreatDoorGuk
namespace Go.Proofs.YtkmjdfcfcfmkdaaGreatDoor.X
open Go.RowKit S
theorem sn5_0 : snRun (.complex .f32 20 34027896409726925408058464809306484893548545) (.int .i64 0) = true := by kernel_rfl
theorem sn5_1 : snRun (.complex .f32 20 34027896409726925408058464809306484893548545) (.int .i64 1) = true := by kernel_rfl
theorem sn5_2 : snRun (.complex .f32 20 34027896409726925408058464809306484893548545) (.int .i64 2) = true := by kernel_rfl
theorem sn5_3 : snRun (.complex .f32 20 34027896409726925408058464809306484893548545) (.int .i64 3) = true := by kernel_rfl
theorem sn5_4 : snRun (.complex .f32 20 34027896409726925408058464809306484893548545) (.int .i64 4) = true := by kernel_rfl
theorem sn5_5 : snRun (.complex .f32 20 34027896409726925408058464809306484893548545) (.int .i64 5) = true := by kernel_rfl
theorem sn5_6 : snRun (.complex .f32 20 34027896409726925408058464809306484893548545) (.int .i64 6) = true := by kernel_rfl
theorem sn5_7 : snRun (.complex .f32 20 34027896409726925408058464809306484893548545) (.int .i64 7) = true := by kernel_rfl
theorem sn5_n (m : Nat) : snRun (.complex .f32 20 34027896409726925408058464809306484893548545) (.int .i64 (Int.negSucc m)) = true := by kernel_rfl
theorem sn5_p (m : Nat) : snRun (.complex .f32 20 34027896409726925408058464809306484893548545) (.int .i64 (Int.ofNat (m + 8))) = true := by kernel_rfl
theorem sn5 : ∀ y : Int, snRun (.complex .f32 20 34027896409726925408058464809306484893548545) (.int .i64 y) = true
  | .negSucc m => sn5_n m
  | .ofNat 0 => sn5_0
  | .ofNat 1 => sn5_1
  | .ofNat 2 => sn5_2
  | .ofNat 3 => sn5_3
  | .ofNat 4 => sn5_4
  | .ofNat 5 => sn5_5
  | .ofNat 6 => sn5_6
  | .ofNat 7 => sn5_7
  | .ofNat (m + 8) => sn5_p m
end Go.Proofs.YtkmjdfcfcfmkdaaGreatDoor.X

/- ShellNumbers: numbers of one length. -/
import Derived.Test.YtkmjdfcfcfmkdaaGreatDoorGuk
namespace Go.Proofs.YtkmjdfcfcfmkdaaGreatDoor.X
open Go.RowKit S
theorem sn9_0 : snRun (.complex .f32 20 340282366580656096544280818375764559185831788545) (.int .i64 0) = true := by kernel_rfl
theorem sn9_1 : snRun (.complex .f32 20 340282366580656096544280818375764559185831788545) (.int .i64 1) = true := by kernel_rfl
theorem sn9_2 : snRun (.complex .f32 20 340282366580656096544280818375764559185831788545) (.int .i64 2) = true := by kernel_rfl
theorem sn9_3 : snRun (.complex .f32 20 340282366580656096544280818375764559185831788545) (.int .i64 3) = true := by kernel_rfl
theorem sn9_4 : snRun (.complex .f32 20 340282366580656096544280818375764559185831788545) (.int .i64 4) = true := by kernel_rfl
theorem sn9_5 : snRun (.complex .f32 20 340282366580656096544280818375764559185831788545) (.int .i64 5) = true := by kernel_rfl
theorem sn9_6 : snRun (.complex .f32 20 340282366580656096544280818375764559185831788545) (.int .i64 6) = true := by kernel_rfl
theorem sn9_7 : snRun (.complex .f32 20 340282366580656096544280818375764559185831788545) (.int .i64 7) = true := by kernel_rfl
theorem sn9_n (m : Nat) : snRun (.complex .f32 20 340282366580656096544280818375764559185831788545) (.int .i64 (Int.negSucc m)) = true := by kernel_rfl
theorem sn9_p (m : Nat) : snRun (.complex .f32 20 340282366580656096544280818375764559185831788545) (.int .i64 (Int.ofNat (m + 8))) = true := by kernel_rfl
theorem sn9 : ∀ y : Int, snRun (.complex .f32 20 340282366580656096544280818375764559185831788545) (.int .i64 y) = true
  | .negSucc m => sn9_n m
  | .ofNat 0 => sn9_0
  | .ofNat 1 => sn9_1
  | .ofNat 2 => sn9_2
  | .ofNat 3 => sn9_3
  | .ofNat 4 => sn9_4
  | .ofNat 5 => sn9_5
  | .ofNat 6 => sn9_6
  | .ofNat 7 => sn9_7
  | .ofNat (m + 8) => sn9_p m
end Go.Proofs.YtkmjdfcfcfmkdaaGreatDoor.X

/- ShellNumbers: numbers of one length. -/
import Derived.Test.YtkmjdfcfcfmkdaaGreatDoorGuk
namespace Go.Proofs.YtkmjdfcfcfmkdaaGreatDoor.X
open Go.RowKit S
theorem sn1_0 : snRun (.complex .f32 20 3062541302288446171188818210959623454721) (.int .i64 0) = true := by kernel_rfl
theorem sn1_1 : snRun (.complex .f32 20 3062541302288446171188818210959623454721) (.int .i64 1) = true := by kernel_rfl
theorem sn1_2 : snRun (.complex .f32 20 3062541302288446171188818210959623454721) (.int .i64 2) = true := by kernel_rfl
theorem sn1_3 : snRun (.complex .f32 20 3062541302288446171188818210959623454721) (.int .i64 3) = true := by kernel_rfl
theorem sn1_4 : snRun (.complex .f32 20 3062541302288446171188818210959623454721) (.int .i64 4) = true := by kernel_rfl
theorem sn1_5 : snRun (.complex .f32 20 3062541302288446171188818210959623454721) (.int .i64 5) = true := by kernel_rfl
theorem sn1_6 : snRun (.complex .f32 20 3062541302288446171188818210959623454721) (.int .i64 6) = true := by kernel_rfl
theorem sn1_7 : snRun (.complex .f32 20 3062541302288446171188818210959623454721) (.int .i64 7) = true := by kernel_rfl
theorem sn1_n (m : Nat) : snRun (.complex .f32 20 3062541302288446171188818210959623454721) (.int .i64 (Int.negSucc m)) = true := by kernel_rfl
theorem sn1_p (m : Nat) : snRun (.complex .f32 20 3062541302288446171188818210959623454721) (.int .i64 (Int.ofNat (m + 8))) = true := by kernel_rfl
theorem sn1 : ∀ y : Int, snRun (.complex .f32 20 3062541302288446171188818210959623454721) (.int .i64 y) = true
  | .negSucc m => sn1_n m
  | .ofNat 0 => sn1_0
  | .ofNat 1 => sn1_1
  | .ofNat 2 => sn1_2
  | .ofNat 3 => sn1_3
  | .ofNat 4 => sn1_4
  | .ofNat 5 => sn1_5
  | .ofNat 6 => sn1_6
  | .ofNat 7 => sn1_7
  | .ofNat (m + 8) => sn1_p m
end Go.Proofs.YtkmjdfcfcfmkdaaGreatDoor.X

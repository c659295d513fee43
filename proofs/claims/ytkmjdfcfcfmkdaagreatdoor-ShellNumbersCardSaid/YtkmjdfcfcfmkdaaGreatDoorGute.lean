/- ShellNumbers: numbers of one length. -/
import Derived.Test.YtkmjdfcfcfmkdaaGreatDoorGuk
namespace Go.Proofs.YtkmjdfcfcfmkdaaGreatDoor.X
open Go.RowKit S
theorem sn4_0 : snRun (.complex .f32 20 3402483386842463696188729443783959897964545) (.int .i64 0) = true := by kernel_rfl
theorem sn4_1 : snRun (.complex .f32 20 3402483386842463696188729443783959897964545) (.int .i64 1) = true := by kernel_rfl
theorem sn4_2 : snRun (.complex .f32 20 3402483386842463696188729443783959897964545) (.int .i64 2) = true := by kernel_rfl
theorem sn4_3 : snRun (.complex .f32 20 3402483386842463696188729443783959897964545) (.int .i64 3) = true := by kernel_rfl
theorem sn4_4 : snRun (.complex .f32 20 3402483386842463696188729443783959897964545) (.int .i64 4) = true := by kernel_rfl
theorem sn4_5 : snRun (.complex .f32 20 3402483386842463696188729443783959897964545) (.int .i64 5) = true := by kernel_rfl
theorem sn4_6 : snRun (.complex .f32 20 3402483386842463696188729443783959897964545) (.int .i64 6) = true := by kernel_rfl
theorem sn4_7 : snRun (.complex .f32 20 3402483386842463696188729443783959897964545) (.int .i64 7) = true := by kernel_rfl
theorem sn4_n (m : Nat) : snRun (.complex .f32 20 3402483386842463696188729443783959897964545) (.int .i64 (Int.negSucc m)) = true := by kernel_rfl
theorem sn4_p (m : Nat) : snRun (.complex .f32 20 3402483386842463696188729443783959897964545) (.int .i64 (Int.ofNat (m + 8))) = true := by kernel_rfl
theorem sn4 : ∀ y : Int, snRun (.complex .f32 20 3402483386842463696188729443783959897964545) (.int .i64 y) = true
  | .negSucc m => sn4_n m
  | .ofNat 0 => sn4_0
  | .ofNat 1 => sn4_1
  | .ofNat 2 => sn4_2
  | .ofNat 3 => sn4_3
  | .ofNat 4 => sn4_4
  | .ofNat 5 => sn4_5
  | .ofNat 6 => sn4_6
  | .ofNat 7 => sn4_7
  | .ofNat (m + 8) => sn4_p m
end Go.Proofs.YtkmjdfcfcfmkdaaGreatDoor.X

/- KeepOne: runs. -/
import Derived.Test.YtigdbaicoiepiaaGreatDoorGko
namespace Go.Proofs.YtigdbaicoiepiaaGreatDoor.X
open Go.RowKit S
theorem ko_1_0 : allFrom (fun r => koRun 1 r) 2 0 = true := by kernel_rfl
theorem ko_2_0 : allFrom (fun r => koRun 2 r) 3 0 = true := by kernel_rfl
theorem ko_3_0 : allFrom (fun r => koRun 3 r) 4 0 = true := by kernel_rfl
theorem ko_4_0 : allFrom (fun r => koRun 4 r) 5 0 = true := by kernel_rfl
theorem ko_5_0 : allFrom (fun r => koRun 5 r) 6 0 = true := by kernel_rfl
theorem ko_6_0 : allFrom (fun r => koRun 6 r) 7 0 = true := by kernel_rfl
theorem ko_7_0 : allFrom (fun r => koRun 7 r) 8 0 = true := by kernel_rfl
theorem ko_8_0 : allFrom (fun r => koRun 8 r) 9 0 = true := by kernel_rfl
theorem ko_9_0 : allFrom (fun r => koRun 9 r) 10 0 = true := by kernel_rfl
theorem ko_10_0 : allFrom (fun r => koRun 10 r) 10 0 = true := by kernel_rfl
theorem ko_10_10 : allFrom (fun r => koRun 10 r) 1 10 = true := by kernel_rfl
theorem ko_11_0 : allFrom (fun r => koRun 11 r) 11 0 = true := by kernel_rfl
theorem ko_11_11 : allFrom (fun r => koRun 11 r) 1 11 = true := by kernel_rfl
theorem ko_12_0 : allFrom (fun r => koRun 12 r) 11 0 = true := by kernel_rfl
end Go.Proofs.YtigdbaicoiepiaaGreatDoor.X

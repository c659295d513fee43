/- KeepOne: runs. -/
import Derived.Test.YtigdbaicoiepiaaGreatDoorGko
namespace Go.Proofs.YtigdbaicoiepiaaGreatDoor.X
open Go.RowKit S
theorem ko_12_11 : allFrom (fun r => koRun 12 r) 2 11 = true := by kernel_rfl
theorem ko_13_0 : allFrom (fun r => koRun 13 r) 11 0 = true := by kernel_rfl
theorem ko_13_11 : allFrom (fun r => koRun 13 r) 3 11 = true := by kernel_rfl
theorem ko_14_0 : allFrom (fun r => koRun 14 r) 11 0 = true := by kernel_rfl
theorem ko_14_11 : allFrom (fun r => koRun 14 r) 4 11 = true := by kernel_rfl
theorem ko_15_0 : allFrom (fun r => koRun 15 r) 11 0 = true := by kernel_rfl
theorem ko_15_11 : allFrom (fun r => koRun 15 r) 5 11 = true := by kernel_rfl
theorem ko_16_0 : allFrom (fun r => koRun 16 r) 11 0 = true := by kernel_rfl
theorem ko_16_11 : allFrom (fun r => koRun 16 r) 6 11 = true := by kernel_rfl
end Go.Proofs.YtigdbaicoiepiaaGreatDoor.X

/- KeepOne: runs. -/
import Derived.Test.YtigdbaicoiepiaaGreatDoorGko
namespace Go.Proofs.YtigdbaicoiepiaaGreatDoor.X
open Go.RowKit S
theorem ko_22_18 : allFrom (fun r => koRun 22 r) 4 18 = true := by kernel_rfl
theorem ko_22_22 : allFrom (fun r => koRun 22 r) 1 22 = true := by kernel_rfl
theorem ko_23_0 : allFrom (fun r => koRun 23 r) 10 0 = true := by kernel_rfl
theorem ko_23_10 : allFrom (fun r => koRun 23 r) 8 10 = true := by kernel_rfl
theorem ko_23_18 : allFrom (fun r => koRun 23 r) 5 18 = true := by kernel_rfl
theorem ko_23_23 : allFrom (fun r => koRun 23 r) 1 23 = true := by kernel_rfl
theorem ko_24_0 : allFrom (fun r => koRun 24 r) 10 0 = true := by kernel_rfl
theorem ko_24_10 : allFrom (fun r => koRun 24 r) 7 10 = true := by kernel_rfl
theorem ko_24_17 : allFrom (fun r => koRun 24 r) 6 17 = true := by kernel_rfl
end Go.Proofs.YtigdbaicoiepiaaGreatDoor.X

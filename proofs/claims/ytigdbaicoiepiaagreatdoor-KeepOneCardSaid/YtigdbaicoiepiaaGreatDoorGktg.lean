/- KeepOne: runs. -/
import Derived.Test.YtigdbaicoiepiaaGreatDoorGko
namespace Go.Proofs.YtigdbaicoiepiaaGreatDoor.X
open Go.RowKit S
theorem ko_26_22 : allFrom (fun r => koRun 26 r) 4 22 = true := by kernel_rfl
theorem ko_26_26 : allFrom (fun r => koRun 26 r) 1 26 = true := by kernel_rfl
theorem ko_27_0 : allFrom (fun r => koRun 27 r) 9 0 = true := by kernel_rfl
theorem ko_27_9 : allFrom (fun r => koRun 27 r) 7 9 = true := by kernel_rfl
theorem ko_27_16 : allFrom (fun r => koRun 27 r) 6 16 = true := by kernel_rfl
theorem ko_27_22 : allFrom (fun r => koRun 27 r) 5 22 = true := by kernel_rfl
theorem ko_27_27 : allFrom (fun r => koRun 27 r) 1 27 = true := by kernel_rfl
theorem ko_28_0 : allFrom (fun r => koRun 28 r) 9 0 = true := by kernel_rfl
theorem ko_28_9 : allFrom (fun r => koRun 28 r) 7 9 = true := by kernel_rfl
end Go.Proofs.YtigdbaicoiepiaaGreatDoor.X

/- KeepOne: runs. -/
import Derived.Test.YtigdbaicoiepiaaGreatDoorGko
namespace Go.Proofs.YtigdbaicoiepiaaGreatDoor.X
open Go.RowKit S
theorem ko_28_16 : allFrom (fun r => koRun 28 r) 6 16 = true := by kernel_rfl
theorem ko_28_22 : allFrom (fun r => koRun 28 r) 6 22 = true := by kernel_rfl
theorem ko_28_28 : allFrom (fun r => koRun 28 r) 1 28 = true := by kernel_rfl
theorem ko_29_0 : allFrom (fun r => koRun 29 r) 9 0 = true := by kernel_rfl
theorem ko_29_9 : allFrom (fun r => koRun 29 r) 7 9 = true := by kernel_rfl
theorem ko_29_16 : allFrom (fun r => koRun 29 r) 6 16 = true := by kernel_rfl
theorem ko_29_22 : allFrom (fun r => koRun 29 r) 5 22 = true := by kernel_rfl
theorem ko_29_27 : allFrom (fun r => koRun 29 r) 3 27 = true := by kernel_rfl
end Go.Proofs.YtigdbaicoiepiaaGreatDoor.X

/- KeepOne: runs. -/
import Derived.Test.YtigdbaicoiepiaaGreatDoorGko
namespace Go.Proofs.YtigdbaicoiepiaaGreatDoor.X
open Go.RowKit S
theorem ko_30_0 : allFrom (fun r => koRun 30 r) 9 0 = true := by kernel_rfl
theorem ko_30_9 : allFrom (fun r => koRun 30 r) 7 9 = true := by kernel_rfl
theorem ko_30_16 : allFrom (fun r => koRun 30 r) 6 16 = true := by kernel_rfl
theorem ko_30_22 : allFrom (fun r => koRun 30 r) 5 22 = true := by kernel_rfl
theorem ko_30_27 : allFrom (fun r => koRun 30 r) 3 27 = true := by kernel_rfl
theorem ko_30_30 : allFrom (fun r => koRun 30 r) 1 30 = true := by kernel_rfl
theorem ko_31_0 : allFrom (fun r => koRun 31 r) 9 0 = true := by kernel_rfl
theorem ko_31_9 : allFrom (fun r => koRun 31 r) 7 9 = true := by kernel_rfl
end Go.Proofs.YtigdbaicoiepiaaGreatDoor.X

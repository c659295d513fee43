/- KeepOne: runs. -/
import Derived.Test.YtigdbaicoiepiaaGreatDoorGko
namespace Go.Proofs.YtigdbaicoiepiaaGreatDoor.X
open Go.RowKit S
theorem ko_31_16 : allFrom (fun r => koRun 31 r) 6 16 = true := by kernel_rfl
theorem ko_31_22 : allFrom (fun r => koRun 31 r) 5 22 = true := by kernel_rfl
theorem ko_31_27 : allFrom (fun r => koRun 31 r) 4 27 = true := by kernel_rfl
theorem ko_31_31 : allFrom (fun r => koRun 31 r) 1 31 = true := by kernel_rfl
theorem ko_32_0 : allFrom (fun r => koRun 32 r) 9 0 = true := by kernel_rfl
theorem ko_32_9 : allFrom (fun r => koRun 32 r) 7 9 = true := by kernel_rfl
theorem ko_32_16 : allFrom (fun r => koRun 32 r) 6 16 = true := by kernel_rfl
theorem ko_32_22 : allFrom (fun r => koRun 32 r) 5 22 = true := by kernel_rfl
end Go.Proofs.YtigdbaicoiepiaaGreatDoor.X

/- KeepOne: runs. -/
import Derived.Test.YtigdbaicoiepiaaGreatDoorGko
namespace Go.Proofs.YtigdbaicoiepiaaGreatDoor.X
open Go.RowKit S
theorem ko_32_27 : allFrom (fun r => koRun 32 r) 5 27 = true := by kernel_rfl
theorem ko_32_32 : allFrom (fun r => koRun 32 r) 1 32 = true := by kernel_rfl
theorem ko_33_0 : allFrom (fun r => koRun 33 r) 8 0 = true := by kernel_rfl
theorem ko_33_8 : allFrom (fun r => koRun 33 r) 7 8 = true := by kernel_rfl
theorem ko_33_15 : allFrom (fun r => koRun 33 r) 6 15 = true := by kernel_rfl
theorem ko_33_21 : allFrom (fun r => koRun 33 r) 5 21 = true := by kernel_rfl
theorem ko_33_26 : allFrom (fun r => koRun 33 r) 5 26 = true := by kernel_rfl
theorem ko_33_31 : allFrom (fun r => koRun 33 r) 2 31 = true := by kernel_rfl
theorem ko_33_33 : allFrom (fun r => koRun 33 r) 1 33 = true := by kernel_rfl
end Go.Proofs.YtigdbaicoiepiaaGreatDoor.X

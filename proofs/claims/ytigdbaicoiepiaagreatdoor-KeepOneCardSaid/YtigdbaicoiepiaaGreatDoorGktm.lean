/- KeepOne: runs. -/
import Derived.Test.YtigdbaicoiepiaaGreatDoorGko
namespace Go.Proofs.YtigdbaicoiepiaaGreatDoor.X
open Go.RowKit S
theorem ko_35_8 : allFrom (fun r => koRun 35 r) 7 8 = true := by kernel_rfl
theorem ko_35_15 : allFrom (fun r => koRun 35 r) 6 15 = true := by kernel_rfl
theorem ko_35_21 : allFrom (fun r => koRun 35 r) 5 21 = true := by kernel_rfl
theorem ko_35_26 : allFrom (fun r => koRun 35 r) 5 26 = true := by kernel_rfl
theorem ko_35_31 : allFrom (fun r => koRun 35 r) 4 31 = true := by kernel_rfl
theorem ko_35_35 : allFrom (fun r => koRun 35 r) 1 35 = true := by kernel_rfl
theorem ko_36_0 : allFrom (fun r => koRun 36 r) 8 0 = true := by kernel_rfl
theorem ko_36_8 : allFrom (fun r => koRun 36 r) 7 8 = true := by kernel_rfl
end Go.Proofs.YtigdbaicoiepiaaGreatDoor.X

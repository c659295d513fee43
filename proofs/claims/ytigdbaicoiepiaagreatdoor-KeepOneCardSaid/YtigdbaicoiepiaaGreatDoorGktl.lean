/- KeepOne: runs. -/
import Derived.Test.YtigdbaicoiepiaaGreatDoorGko
namespace Go.Proofs.YtigdbaicoiepiaaGreatDoor.X
open Go.RowKit S
theorem ko_34_0 : allFrom (fun r => koRun 34 r) 8 0 = true := by kernel_rfl
theorem ko_34_8 : allFrom (fun r => koRun 34 r) 7 8 = true := by kernel_rfl
theorem ko_34_15 : allFrom (fun r => koRun 34 r) 6 15 = true := by kernel_rfl
theorem ko_34_21 : allFrom (fun r => koRun 34 r) 5 21 = true := by kernel_rfl
theorem ko_34_26 : allFrom (fun r => koRun 34 r) 5 26 = true := by kernel_rfl
theorem ko_34_31 : allFrom (fun r => koRun 34 r) 3 31 = true := by kernel_rfl
theorem ko_34_34 : allFrom (fun r => koRun 34 r) 1 34 = true := by kernel_rfl
theorem ko_35_0 : allFrom (fun r => koRun 35 r) 8 0 = true := by kernel_rfl
end Go.Proofs.YtigdbaicoiepiaaGreatDoor.X

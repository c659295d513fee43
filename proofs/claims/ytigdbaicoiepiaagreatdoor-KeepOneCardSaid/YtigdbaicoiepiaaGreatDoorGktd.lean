/- KeepOne: runs. -/
import Derived.Test.YtigdbaicoiepiaaGreatDoorGko
namespace Go.Proofs.YtigdbaicoiepiaaGreatDoor.X
open Go.RowKit S
theorem ko_20_0 : allFrom (fun r => koRun 20 r) 10 0 = true := by kernel_rfl
theorem ko_20_10 : allFrom (fun r => koRun 20 r) 8 10 = true := by kernel_rfl
theorem ko_20_18 : allFrom (fun r => koRun 20 r) 3 18 = true := by kernel_rfl
theorem ko_21_0 : allFrom (fun r => koRun 21 r) 10 0 = true := by kernel_rfl
theorem ko_21_10 : allFrom (fun r => koRun 21 r) 8 10 = true := by kernel_rfl
theorem ko_21_18 : allFrom (fun r => koRun 21 r) 4 18 = true := by kernel_rfl
theorem ko_22_0 : allFrom (fun r => koRun 22 r) 10 0 = true := by kernel_rfl
theorem ko_22_10 : allFrom (fun r => koRun 22 r) 8 10 = true := by kernel_rfl
end Go.Proofs.YtigdbaicoiepiaaGreatDoor.X

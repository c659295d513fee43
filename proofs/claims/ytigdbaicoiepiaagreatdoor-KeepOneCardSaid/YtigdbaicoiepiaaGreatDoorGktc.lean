/- KeepOne: runs. -/
import Derived.Test.YtigdbaicoiepiaaGreatDoorGko
namespace Go.Proofs.YtigdbaicoiepiaaGreatDoor.X
open Go.RowKit S
theorem ko_17_0 : allFrom (fun r => koRun 17 r) 11 0 = true := by kernel_rfl
theorem ko_17_11 : allFrom (fun r => koRun 17 r) 6 11 = true := by kernel_rfl
theorem ko_17_17 : allFrom (fun r => koRun 17 r) 1 17 = true := by kernel_rfl
theorem ko_18_0 : allFrom (fun r => koRun 18 r) 10 0 = true := by kernel_rfl
theorem ko_18_10 : allFrom (fun r => koRun 18 r) 8 10 = true := by kernel_rfl
theorem ko_18_18 : allFrom (fun r => koRun 18 r) 1 18 = true := by kernel_rfl
theorem ko_19_0 : allFrom (fun r => koRun 19 r) 10 0 = true := by kernel_rfl
theorem ko_19_10 : allFrom (fun r => koRun 19 r) 8 10 = true := by kernel_rfl
theorem ko_19_18 : allFrom (fun r => koRun 19 r) 2 18 = true := by kernel_rfl
end Go.Proofs.YtigdbaicoiepiaaGreatDoor.X

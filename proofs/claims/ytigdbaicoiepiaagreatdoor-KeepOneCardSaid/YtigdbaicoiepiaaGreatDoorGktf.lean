/- KeepOne: runs. -/
import Derived.Test.YtigdbaicoiepiaaGreatDoorGko
namespace Go.Proofs.YtigdbaicoiepiaaGreatDoor.X
open Go.RowKit S
theorem ko_24_23 : allFrom (fun r => koRun 24 r) 2 23 = true := by kernel_rfl
theorem ko_25_0 : allFrom (fun r => koRun 25 r) 9 0 = true := by kernel_rfl
theorem ko_25_9 : allFrom (fun r => koRun 25 r) 8 9 = true := by kernel_rfl
theorem ko_25_17 : allFrom (fun r => koRun 25 r) 6 17 = true := by kernel_rfl
theorem ko_25_23 : allFrom (fun r => koRun 25 r) 3 23 = true := by kernel_rfl
theorem ko_26_0 : allFrom (fun r => koRun 26 r) 9 0 = true := by kernel_rfl
theorem ko_26_9 : allFrom (fun r => koRun 26 r) 7 9 = true := by kernel_rfl
theorem ko_26_16 : allFrom (fun r => koRun 26 r) 6 16 = true := by kernel_rfl
end Go.Proofs.YtigdbaicoiepiaaGreatDoor.X

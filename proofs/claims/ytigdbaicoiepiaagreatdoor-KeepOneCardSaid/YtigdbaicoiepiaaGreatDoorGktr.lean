/- KeepOne: runs. -/
import Derived.Test.YtigdbaicoiepiaaGreatDoorGko
namespace Go.Proofs.YtigdbaicoiepiaaGreatDoor.X
open Go.RowKit S
theorem ko_40_20 : allFrom (fun r => koRun 40 r) 5 20 = true := by kernel_rfl
theorem ko_40_25 : allFrom (fun r => koRun 40 r) 5 25 = true := by kernel_rfl
theorem ko_40_30 : allFrom (fun r => koRun 40 r) 4 30 = true := by kernel_rfl
theorem ko_40_34 : allFrom (fun r => koRun 40 r) 4 34 = true := by kernel_rfl
theorem ko_40_38 : allFrom (fun r => koRun 40 r) 2 38 = true := by kernel_rfl
theorem ko_40_40 : allFrom (fun r => koRun 40 r) 1 40 = true := by kernel_rfl
end Go.Proofs.YtigdbaicoiepiaaGreatDoor.X

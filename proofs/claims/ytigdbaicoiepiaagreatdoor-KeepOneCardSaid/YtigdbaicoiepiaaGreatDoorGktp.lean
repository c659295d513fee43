/- KeepOne: runs. -/
import Derived.Test.YtigdbaicoiepiaaGreatDoorGko
namespace Go.Proofs.YtigdbaicoiepiaaGreatDoor.X
open Go.RowKit S
theorem ko_38_21 : allFrom (fun r => koRun 38 r) 5 21 = true := by kernel_rfl
theorem ko_38_26 : allFrom (fun r => koRun 38 r) 5 26 = true := by kernel_rfl
theorem ko_38_31 : allFrom (fun r => koRun 38 r) 4 31 = true := by kernel_rfl
theorem ko_38_35 : allFrom (fun r => koRun 38 r) 3 35 = true := by kernel_rfl
theorem ko_38_38 : allFrom (fun r => koRun 38 r) 1 38 = true := by kernel_rfl
theorem ko_39_0 : allFrom (fun r => koRun 39 r) 8 0 = true := by kernel_rfl
theorem ko_39_8 : allFrom (fun r => koRun 39 r) 7 8 = true := by kernel_rfl
theorem ko_39_15 : allFrom (fun r => koRun 39 r) 6 15 = true := by kernel_rfl
end Go.Proofs.YtigdbaicoiepiaaGreatDoor.X

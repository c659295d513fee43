/- KeepOne: runs. -/
import Derived.Test.YtigdbaicoiepiaaGreatDoorGko
namespace Go.Proofs.YtigdbaicoiepiaaGreatDoor.X
open Go.RowKit S
theorem ko_39_21 : allFrom (fun r => koRun 39 r) 5 21 = true := by kernel_rfl
theorem ko_39_26 : allFrom (fun r => koRun 39 r) 5 26 = true := by kernel_rfl
theorem ko_39_31 : allFrom (fun r => koRun 39 r) 4 31 = true := by kernel_rfl
theorem ko_39_35 : allFrom (fun r => koRun 39 r) 4 35 = true := by kernel_rfl
theorem ko_39_39 : allFrom (fun r => koRun 39 r) 1 39 = true := by kernel_rfl
theorem ko_40_0 : allFrom (fun r => koRun 40 r) 8 0 = true := by kernel_rfl
theorem ko_40_8 : allFrom (fun r => koRun 40 r) 6 8 = true := by kernel_rfl
theorem ko_40_14 : allFrom (fun r => koRun 40 r) 6 14 = true := by kernel_rfl
end Go.Proofs.YtigdbaicoiepiaaGreatDoor.X

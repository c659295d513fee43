/- KeepOne: runs. -/
import Derived.Test.YtigdbaicoiepiaaGreatDoorGko
namespace Go.Proofs.YtigdbaicoiepiaaGreatDoor.X
open Go.RowKit S
theorem ko_36_15 : allFrom (fun r => koRun 36 r) 6 15 = true := by kernel_rfl
theorem ko_36_21 : allFrom (fun r => koRun 36 r) 5 21 = true := by kernel_rfl
theorem ko_36_26 : allFrom (fun r => koRun 36 r) 5 26 = true := by kernel_rfl
theorem ko_36_31 : allFrom (fun r => koRun 36 r) 4 31 = true := by kernel_rfl
theorem ko_36_35 : allFrom (fun r => koRun 36 r) 2 35 = true := by kernel_rfl
theorem ko_37_0 : allFrom (fun r => koRun 37 r) 8 0 = true := by kernel_rfl
theorem ko_37_8 : allFrom (fun r => koRun 37 r) 7 8 = true := by kernel_rfl
theorem ko_37_15 : allFrom (fun r => koRun 37 r) 6 15 = true := by kernel_rfl
end Go.Proofs.YtigdbaicoiepiaaGreatDoor.X

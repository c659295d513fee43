/- KeepOne: runs. -/
import Derived.Test.YtigdbaicoiepiaaGreatDoorGko
namespace Go.Proofs.YtigdbaicoiepiaaGreatDoor.X
open Go.RowKit S
theorem ko_37_21 : allFrom (fun r => koRun 37 r) 5 21 = true := by kernel_rfl
theorem ko_37_26 : allFrom (fun r => koRun 37 r) 5 26 = true := by kernel_rfl
theorem ko_37_31 : allFrom (fun r => koRun 37 r) 4 31 = true := by kernel_rfl
theorem ko_37_35 : allFrom (fun r => koRun 37 r) 2 35 = true := by kernel_rfl
theorem ko_37_37 : allFrom (fun r => koRun 37 r) 1 37 = true := by kernel_rfl
theorem ko_38_0 : allFrom (fun r => koRun 38 r) 8 0 = true := by kernel_rfl
theorem ko_38_8 : allFrom (fun r => koRun 38 r) 7 8 = true := by kernel_rfl
theorem ko_38_15 : allFrom (fun r => koRun 38 r) 6 15 = true := by kernel_rfl
end Go.Proofs.YtigdbaicoiepiaaGreatDoor.X

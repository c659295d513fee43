/- WorldDrift: names, run. -/
import Derived.Test.YtigdbaicoiepiaaGreatDoorGdo
namespace Go.Proofs.YtigdbaicoiepiaaGreatDoor.X
open Go.RowKit S
theorem Gdol_ok : allFrom (fun i => segOk Tryz.prog 21 Kno 10000000 (dsO i)) 1 675 = true := by kernel_rfl
end Go.Proofs.YtigdbaicoiepiaaGreatDoor.X

/- WorldDrift: names, run. -/
import Derived.Test.YtigdbaicoiepiaaGreatDoorGdo
namespace Go.Proofs.YtigdbaicoiepiaaGreatDoor.X
open Go.RowKit S
theorem Gdod_ok : allFrom (fun i => segOk Tryz.prog 21 Kno 10000000 (dsO i)) 75 75 = true := by kernel_rfl
end Go.Proofs.YtigdbaicoiepiaaGreatDoor.X

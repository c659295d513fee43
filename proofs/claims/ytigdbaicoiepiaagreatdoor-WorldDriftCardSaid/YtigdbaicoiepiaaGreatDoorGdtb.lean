/- WorldDrift: the runs. -/
import Derived.Test.YtigdbaicoiepiaaGreatDoorGda
import Derived.Test.YtigdbaicoiepiaaGreatDoorGdp
namespace Go.Proofs.YtigdbaicoiepiaaGreatDoor.X
open Go.RowKit S
theorem wdrb : okTrue ((goF Tryz.prog 21 (orK (KA [14] 2 3) (orK (KSum 445) (KI 21 dsSel))) 10000000).call 4 [.complex .f32 20 340282366920938463465551323232465938546689] (start0 21 2 3)) = true := by kernel_rfl
end Go.Proofs.YtigdbaicoiepiaaGreatDoor.X

/- WorldDrift: the runs. -/
import Derived.Test.YtigdbaicoiepiaaGreatDoorGda
import Derived.Test.YtigdbaicoiepiaaGreatDoorGdp
namespace Go.Proofs.YtigdbaicoiepiaaGreatDoor.X
open Go.RowKit S
theorem wdrc : okTrue ((goF Tryz.prog 21 (orK (KA [14] 2 3) (orK (KSum 445) (KI 21 dsSel))) 10000000).call 4 [.complex .f32 20 1701411834604692317335338227976624318447617] (start0 21 2 3)) = true := by kernel_rfl
end Go.Proofs.YtigdbaicoiepiaaGreatDoor.X

/- WorldDown: the runs. -/
import Derived.Test.YtigdbaicoiepiaaGreatDoorGwa
import Derived.Test.YtigdbaicoiepiaaGreatDoorGwra
import Derived.Test.YtigdbaicoiepiaaGreatDoorGwrb
import Derived.Test.YtigdbaicoiepiaaGreatDoorGwrc
import Derived.Test.YtigdbaicoiepiaaGreatDoorGwrd
import Derived.Test.YtigdbaicoiepiaaGreatDoorGwre
import Derived.Test.YtigdbaicoiepiaaGreatDoorGwrf
namespace Go.Proofs.YtigdbaicoiepiaaGreatDoor.X
open Go.RowKit S
theorem wdn0 : okTrue ((goF Tryz.prog 20 (orK (KA [14] 2 3) (orK (orK (KL [20] Gwra_s) (orK (KL [20] Gwrb_s) (orK (KL [20] Gwrc_s) (orK (KL [20] Gwrd_s) (orK (KL [20] Gwre_s) (KL [20] Gwrf_s)))))) (orK (KM 20 [43, 44, 90] Gwqa_s) (orK (KM 20 [43, 44, 90] Gwqb_s) (KM 20 [43, 44, 90] Gwqc_s))))) 10000000).call 5 [.int .i64 0, .chan (some 62)] (start0 20 2 3)) = true := by kernel_rfl
theorem wdn1 : okTrue ((goF Tryz.prog 20 (orK (KA [14] 2 3) (orK (orK (KL [20] Gwra_s) (orK (KL [20] Gwrb_s) (orK (KL [20] Gwrc_s) (orK (KL [20] Gwrd_s) (orK (KL [20] Gwre_s) (KL [20] Gwrf_s)))))) (orK (KM 20 [43, 44, 90] Gwqa_s) (orK (KM 20 [43, 44, 90] Gwqb_s) (KM 20 [43, 44, 90] Gwqc_s))))) 10000000).call 5 [.int .i64 1, .chan (some 62)] (start0 20 2 3)) = true := by kernel_rfl
theorem wdn2 : okTrue ((goF Tryz.prog 20 (orK (KA [14] 2 3) (orK (orK (KL [20] Gwra_s) (orK (KL [20] Gwrb_s) (orK (KL [20] Gwrc_s) (orK (KL [20] Gwrd_s) (orK (KL [20] Gwre_s) (KL [20] Gwrf_s)))))) (orK (KM 20 [43, 44, 90] Gwqa_s) (orK (KM 20 [43, 44, 90] Gwqb_s) (KM 20 [43, 44, 90] Gwqc_s))))) 10000000).call 5 [.int .i64 2, .chan (some 62)] (start0 20 2 3)) = true := by kernel_rfl
end Go.Proofs.YtigdbaicoiepiaaGreatDoor.X

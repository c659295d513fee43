/- NodeOrder: the runs. -/
import Derived.Test.YtigdbaicoiepiaaGreatDoorGna
import Derived.Test.YtigdbaicoiepiaaGreatDoorGnra
import Derived.Test.YtigdbaicoiepiaaGreatDoorGnrb
import Derived.Test.YtigdbaicoiepiaaGreatDoorGnrc
import Derived.Test.YtigdbaicoiepiaaGreatDoorGnrd
import Derived.Test.YtigdbaicoiepiaaGreatDoorGnre
import Derived.Test.YtigdbaicoiepiaaGreatDoorGnrf
import Derived.Test.YtigdbaicoiepiaaGreatDoorGnrg
import Derived.Test.YtigdbaicoiepiaaGreatDoorGnrh
namespace Go.Proofs.YtigdbaicoiepiaaGreatDoor.X
open Go.RowKit S
theorem noe16 : okTrue ((goF Tryz.prog 21 (orK (KA [32] 2 3) (orK (orK (KL [34] Gnra_s) (orK (KL [34] Gnrb_s) (orK (KL [34] Gnrc_s) (orK (KL [34] Gnrd_s) (orK (KL [34] Gnre_s) (orK (KL [34] Gnrf_s) (orK (KL [34] Gnrg_s) (KL [34] Gnrh_s)))))))) (orK (KM 21 [43, 44, 302] Gnqa_s) (orK (KM 21 [43, 44, 302] Gnqb_s) (KM 21 [43, 44, 302] Gnqc_s))))) 10000000).call 6 [.int .i64 16, .int .i64 16] (start0 21 2 3)) = true := by kernel_rfl
theorem nog16 : okTrue ((goF Tryz.prog 21 (orK (KA [32] 2 3) (orK (orK (KL [34] Gnra_s) (orK (KL [34] Gnrb_s) (orK (KL [34] Gnrc_s) (orK (KL [34] Gnrd_s) (orK (KL [34] Gnre_s) (orK (KL [34] Gnrf_s) (orK (KL [34] Gnrg_s) (KL [34] Gnrh_s)))))))) (orK (KM 21 [43, 44, 302] Gnqa_s) (orK (KM 21 [43, 44, 302] Gnqb_s) (KM 21 [43, 44, 302] Gnqc_s))))) 10000000).call 6 [.int .i64 16, .complex .f32 20 10208471007628153904214832872206108721153] (start0 21 2 3)) = true := by kernel_rfl
theorem nol17 : okTrue ((goF Tryz.prog 21 (orK (KA [32] 2 3) (orK (orK (KL [34] Gnra_s) (orK (KL [34] Gnrb_s) (orK (KL [34] Gnrc_s) (orK (KL [34] Gnrd_s) (orK (KL [34] Gnre_s) (orK (KL [34] Gnrf_s) (orK (KL [34] Gnrg_s) (KL [34] Gnrh_s)))))))) (orK (KM 21 [43, 44, 302] Gnqa_s) (orK (KM 21 [43, 44, 302] Gnqb_s) (KM 21 [43, 44, 302] Gnqc_s))))) 10000000).call 6 [.int .i64 17, .complex .f32 20 5444517870735015415413993718908291383297] (start0 21 2 3)) = true := by kernel_rfl
theorem noe17 : okTrue ((goF Tryz.prog 21 (orK (KA [32] 2 3) (orK (orK (KL [34] Gnra_s) (orK (KL [34] Gnrb_s) (orK (KL [34] Gnrc_s) (orK (KL [34] Gnrd_s) (orK (KL [34] Gnre_s) (orK (KL [34] Gnrf_s) (orK (KL [34] Gnrg_s) (KL [34] Gnrh_s)))))))) (orK (KM 21 [43, 44, 302] Gnqa_s) (orK (KM 21 [43, 44, 302] Gnqb_s) (KM 21 [43, 44, 302] Gnqc_s))))) 10000000).call 6 [.int .i64 17, .int .i64 17] (start0 21 2 3)) = true := by kernel_rfl
theorem nog17 : okTrue ((goF Tryz.prog 21 (orK (KA [32] 2 3) (orK (orK (KL [34] Gnra_s) (orK (KL [34] Gnrb_s) (orK (KL [34] Gnrc_s) (orK (KL [34] Gnrd_s) (orK (KL [34] Gnre_s) (orK (KL [34] Gnrf_s) (orK (KL [34] Gnrg_s) (KL [34] Gnrh_s)))))))) (orK (KM 21 [43, 44, 302] Gnqa_s) (orK (KM 21 [43, 44, 302] Gnqb_s) (KM 21 [43, 44, 302] Gnqc_s))))) 10000000).call 6 [.int .i64 17, .complex .f32 20 10208471007628153904233279616279818272769] (start0 21 2 3)) = true := by kernel_rfl
theorem nol18 : okTrue ((goF Tryz.prog 21 (orK (KA [32] 2 3) (orK (orK (KL [34] Gnra_s) (orK (KL [34] Gnrb_s) (orK (KL [34] Gnrc_s) (orK (KL [34] Gnrd_s) (orK (KL [34] Gnre_s) (orK (KL [34] Gnrf_s) (orK (KL [34] Gnrg_s) (KL [34] Gnrh_s)))))))) (orK (KM 21 [43, 44, 302] Gnqa_s) (orK (KM 21 [43, 44, 302] Gnqb_s) (KM 21 [43, 44, 302] Gnqc_s))))) 10000000).call 6 [.int .i64 18, .complex .f32 20 5784800237655953878877368326340059594753] (start0 21 2 3)) = true := by kernel_rfl
end Go.Proofs.YtigdbaicoiepiaaGreatDoor.X

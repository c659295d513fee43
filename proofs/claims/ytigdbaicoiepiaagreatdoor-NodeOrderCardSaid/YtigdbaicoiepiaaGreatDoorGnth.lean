/- NodeOrder: the runs. -/
import Derived.Test.YtigdbaicoiepiaaGreatDoorGna
import Derived.Test.YtigdbaicoiepiaaGreatDoorGnra
import Derived.Test.YtigdbaicoiepiaaGreatDoorGnrb
import Derived.Test.YtigdbaicoiepiaaGreatDoorGnrc
import Derived.Test.YtigdbaicoiepiaaGreatDoorGnrd
import Derived.Test.YtigdbaicoiepiaaGreatDoorGnre
import Derived.Test.YtigdbaicoiepiaaGreatDoorGnrf
import Derived.Test.YtigdbaicoiepiaaGreatDoorGnrg
import Derived.Test.YtigdbaicoiepiaaGreatDoorGnrh
namespace Go.Proofs.YtigdbaicoiepiaaGreatDoor.X
open Go.RowKit S
theorem noe14 : okTrue ((goF Tryz.prog 21 (orK (KA [32] 2 3) (orK (orK (KL [34] Gnra_s) (orK (KL [34] Gnrb_s) (orK (KL [34] Gnrc_s) (orK (KL [34] Gnrd_s) (orK (KL [34] Gnre_s) (orK (KL [34] Gnrf_s) (orK (KL [34] Gnrg_s) (KL [34] Gnrh_s)))))))) (orK (KM 21 [43, 44, 302] Gnqa_s) (orK (KM 21 [43, 44, 302] Gnqb_s) (KM 21 [43, 44, 302] Gnqc_s))))) 10000000).call 6 [.int .i64 14, .int .i64 14] (start0 21 2 3)) = true := by kernel_rfl
theorem nog14 : okTrue ((goF Tryz.prog 21 (orK (KA [32] 2 3) (orK (orK (KL [34] Gnra_s) (orK (KL [34] Gnrb_s) (orK (KL [34] Gnrc_s) (orK (KL [34] Gnrd_s) (orK (KL [34] Gnre_s) (orK (KL [34] Gnrf_s) (orK (KL [34] Gnrg_s) (KL [34] Gnrh_s)))))))) (orK (KM 21 [43, 44, 302] Gnqa_s) (orK (KM 21 [43, 44, 302] Gnqb_s) (KM 21 [43, 44, 302] Gnqc_s))))) 10000000).call 6 [.int .i64 14, .complex .f32 20 10208471007628153904177939384058689617921] (start0 21 2 3)) = true := by kernel_rfl
theorem nol15 : okTrue ((goF Tryz.prog 21 (orK (KA [32] 2 3) (orK (orK (KL [34] Gnra_s) (orK (KL [34] Gnrb_s) (orK (KL [34] Gnrc_s) (orK (KL [34] Gnrd_s) (orK (KL [34] Gnre_s) (orK (KL [34] Gnrf_s) (orK (KL [34] Gnrg_s) (KL [34] Gnrh_s)))))))) (orK (KM 21 [43, 44, 302] Gnqa_s) (orK (KM 21 [43, 44, 302] Gnqb_s) (KM 21 [43, 44, 302] Gnqc_s))))) 10000000).call 6 [.int .i64 15, .complex .f32 20 4763953136893138488487244504044754960385] (start0 21 2 3)) = true := by kernel_rfl
theorem noe15 : okTrue ((goF Tryz.prog 21 (orK (KA [32] 2 3) (orK (orK (KL [34] Gnra_s) (orK (KL [34] Gnrb_s) (orK (KL [34] Gnrc_s) (orK (KL [34] Gnrd_s) (orK (KL [34] Gnre_s) (orK (KL [34] Gnrf_s) (orK (KL [34] Gnrg_s) (KL [34] Gnrh_s)))))))) (orK (KM 21 [43, 44, 302] Gnqa_s) (orK (KM 21 [43, 44, 302] Gnqb_s) (KM 21 [43, 44, 302] Gnqc_s))))) 10000000).call 6 [.int .i64 15, .int .i64 15] (start0 21 2 3)) = true := by kernel_rfl
theorem nog15 : okTrue ((goF Tryz.prog 21 (orK (KA [32] 2 3) (orK (orK (KL [34] Gnra_s) (orK (KL [34] Gnrb_s) (orK (KL [34] Gnrc_s) (orK (KL [34] Gnrd_s) (orK (KL [34] Gnre_s) (orK (KL [34] Gnrf_s) (orK (KL [34] Gnrg_s) (KL [34] Gnrh_s)))))))) (orK (KM 21 [43, 44, 302] Gnqa_s) (orK (KM 21 [43, 44, 302] Gnqb_s) (KM 21 [43, 44, 302] Gnqc_s))))) 10000000).call 6 [.int .i64 15, .complex .f32 20 10208471007628153904196386128132399169537] (start0 21 2 3)) = true := by kernel_rfl
theorem nol16 : okTrue ((goF Tryz.prog 21 (orK (KA [32] 2 3) (orK (orK (KL [34] Gnra_s) (orK (KL [34] Gnrb_s) (orK (KL [34] Gnrc_s) (orK (KL [34] Gnrd_s) (orK (KL [34] Gnre_s) (orK (KL [34] Gnrf_s) (orK (KL [34] Gnrg_s) (KL [34] Gnrh_s)))))))) (orK (KM 21 [43, 44, 302] Gnqa_s) (orK (KM 21 [43, 44, 302] Gnqb_s) (KM 21 [43, 44, 302] Gnqc_s))))) 10000000).call 6 [.int .i64 16, .complex .f32 20 5104235503814076951950619111476523171841] (start0 21 2 3)) = true := by kernel_rfl
end Go.Proofs.YtigdbaicoiepiaaGreatDoor.X

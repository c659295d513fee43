/- NodeOrder: the runs. -/
import Derived.Test.YtigdbaicoiepiaaGreatDoorGna
import Derived.Test.YtigdbaicoiepiaaGreatDoorGnra
import Derived.Test.YtigdbaicoiepiaaGreatDoorGnrb
import Derived.Test.YtigdbaicoiepiaaGreatDoorGnrc
import Derived.Test.YtigdbaicoiepiaaGreatDoorGnrd
import Derived.Test.YtigdbaicoiepiaaGreatDoorGnre
import Derived.Test.YtigdbaicoiepiaaGreatDoorGnrf
import Derived.Test.YtigdbaicoiepiaaGreatDoorGnrg
import Derived.Test.YtigdbaicoiepiaaGreatDoorGnrh
namespace Go.Proofs.YtigdbaicoiepiaaGreatDoor.X
open Go.RowKit S
theorem noe6 : okTrue ((goF Tryz.prog 21 (orK (KA [32] 2 3) (orK (orK (KL [34] Gnra_s) (orK (KL [34] Gnrb_s) (orK (KL [34] Gnrc_s) (orK (KL [34] Gnrd_s) (orK (KL [34] Gnre_s) (orK (KL [34] Gnrf_s) (orK (KL [34] Gnrg_s) (KL [34] Gnrh_s)))))))) (orK (KM 21 [43, 44, 302] Gnqa_s) (orK (KM 21 [43, 44, 302] Gnqb_s) (KM 21 [43, 44, 302] Gnqc_s))))) 10000000).call 6 [.int .i64 6, .int .i64 6] (start0 21 2 3)) = true := by kernel_rfl
theorem nog6 : okTrue ((goF Tryz.prog 21 (orK (KA [32] 2 3) (orK (orK (KL [34] Gnra_s) (orK (KL [34] Gnrb_s) (orK (KL [34] Gnrc_s) (orK (KL [34] Gnrd_s) (orK (KL [34] Gnre_s) (orK (KL [34] Gnrf_s) (orK (KL [34] Gnrg_s) (KL [34] Gnrh_s)))))))) (orK (KM 21 [43, 44, 302] Gnqa_s) (orK (KM 21 [43, 44, 302] Gnqb_s) (KM 21 [43, 44, 302] Gnqc_s))))) 10000000).call 6 [.int .i64 6, .complex .f32 20 10208471007628153904030365431469013204993] (start0 21 2 3)) = true := by kernel_rfl
theorem nol7 : okTrue ((goF Tryz.prog 21 (orK (KA [32] 2 3) (orK (orK (KL [34] Gnra_s) (orK (KL [34] Gnrb_s) (orK (KL [34] Gnrc_s) (orK (KL [34] Gnrd_s) (orK (KL [34] Gnre_s) (orK (KL [34] Gnrf_s) (orK (KL [34] Gnrg_s) (KL [34] Gnrh_s)))))))) (orK (KM 21 [43, 44, 302] Gnqa_s) (orK (KM 21 [43, 44, 302] Gnqb_s) (KM 21 [43, 44, 302] Gnqc_s))))) 10000000).call 6 [.int .i64 7, .complex .f32 20 2041694201525630780780247644590609268737] (start0 21 2 3)) = true := by kernel_rfl
theorem noe7 : okTrue ((goF Tryz.prog 21 (orK (KA [32] 2 3) (orK (orK (KL [34] Gnra_s) (orK (KL [34] Gnrb_s) (orK (KL [34] Gnrc_s) (orK (KL [34] Gnrd_s) (orK (KL [34] Gnre_s) (orK (KL [34] Gnrf_s) (orK (KL [34] Gnrg_s) (KL [34] Gnrh_s)))))))) (orK (KM 21 [43, 44, 302] Gnqa_s) (orK (KM 21 [43, 44, 302] Gnqb_s) (KM 21 [43, 44, 302] Gnqc_s))))) 10000000).call 6 [.int .i64 7, .int .i64 7] (start0 21 2 3)) = true := by kernel_rfl
theorem nog7 : okTrue ((goF Tryz.prog 21 (orK (KA [32] 2 3) (orK (orK (KL [34] Gnra_s) (orK (KL [34] Gnrb_s) (orK (KL [34] Gnrc_s) (orK (KL [34] Gnrd_s) (orK (KL [34] Gnre_s) (orK (KL [34] Gnrf_s) (orK (KL [34] Gnrg_s) (KL [34] Gnrh_s)))))))) (orK (KM 21 [43, 44, 302] Gnqa_s) (orK (KM 21 [43, 44, 302] Gnqb_s) (KM 21 [43, 44, 302] Gnqc_s))))) 10000000).call 6 [.int .i64 7, .complex .f32 20 10208471007628153904048812175542722756609] (start0 21 2 3)) = true := by kernel_rfl
theorem nol8 : okTrue ((goF Tryz.prog 21 (orK (KA [32] 2 3) (orK (orK (KL [34] Gnra_s) (orK (KL [34] Gnrb_s) (orK (KL [34] Gnrc_s) (orK (KL [34] Gnrd_s) (orK (KL [34] Gnre_s) (orK (KL [34] Gnrf_s) (orK (KL [34] Gnrg_s) (KL [34] Gnrh_s)))))))) (orK (KM 21 [43, 44, 302] Gnqa_s) (orK (KM 21 [43, 44, 302] Gnqb_s) (KM 21 [43, 44, 302] Gnqc_s))))) 10000000).call 6 [.int .i64 8, .complex .f32 20 2381976568446569244243622252022377480193] (start0 21 2 3)) = true := by kernel_rfl
end Go.Proofs.YtigdbaicoiepiaaGreatDoor.X

/- NodeOrder: the runs. -/
import Derived.Test.YtigdbaicoiepiaaGreatDoorGna
import Derived.Test.YtigdbaicoiepiaaGreatDoorGnra
import Derived.Test.YtigdbaicoiepiaaGreatDoorGnrb
import Derived.Test.YtigdbaicoiepiaaGreatDoorGnrc
import Derived.Test.YtigdbaicoiepiaaGreatDoorGnrd
import Derived.Test.YtigdbaicoiepiaaGreatDoorGnre
import Derived.Test.YtigdbaicoiepiaaGreatDoorGnrf
import Derived.Test.YtigdbaicoiepiaaGreatDoorGnrg
import Derived.Test.YtigdbaicoiepiaaGreatDoorGnrh
namespace Go.Proofs.YtigdbaicoiepiaaGreatDoor.X
open Go.RowKit S
theorem noe10 : okTrue ((goF Tryz.prog 21 (orK (KA [32] 2 3) (orK (orK (KL [34] Gnra_s) (orK (KL [34] Gnrb_s) (orK (KL [34] Gnrc_s) (orK (KL [34] Gnrd_s) (orK (KL [34] Gnre_s) (orK (KL [34] Gnrf_s) (orK (KL [34] Gnrg_s) (KL [34] Gnrh_s)))))))) (orK (KM 21 [43, 44, 302] Gnqa_s) (orK (KM 21 [43, 44, 302] Gnqb_s) (KM 21 [43, 44, 302] Gnqc_s))))) 10000000).call 6 [.int .i64 10, .int .i64 10] (start0 21 2 3)) = true := by kernel_rfl
theorem nog10 : okTrue ((goF Tryz.prog 21 (orK (KA [32] 2 3) (orK (orK (KL [34] Gnra_s) (orK (KL [34] Gnrb_s) (orK (KL [34] Gnrc_s) (orK (KL [34] Gnrd_s) (orK (KL [34] Gnre_s) (orK (KL [34] Gnrf_s) (orK (KL [34] Gnrg_s) (KL [34] Gnrh_s)))))))) (orK (KM 21 [43, 44, 302] Gnqa_s) (orK (KM 21 [43, 44, 302] Gnqb_s) (KM 21 [43, 44, 302] Gnqc_s))))) 10000000).call 6 [.int .i64 10, .complex .f32 20 10208471007628153904104152407763851411457] (start0 21 2 3)) = true := by kernel_rfl
theorem nol11 : okTrue ((goF Tryz.prog 21 (orK (KA [32] 2 3) (orK (orK (KL [34] Gnra_s) (orK (KL [34] Gnrb_s) (orK (KL [34] Gnrc_s) (orK (KL [34] Gnrd_s) (orK (KL [34] Gnre_s) (orK (KL [34] Gnrf_s) (orK (KL [34] Gnrg_s) (KL [34] Gnrh_s)))))))) (orK (KM 21 [43, 44, 302] Gnqa_s) (orK (KM 21 [43, 44, 302] Gnqb_s) (KM 21 [43, 44, 302] Gnqc_s))))) 10000000).call 6 [.int .i64 11, .complex .f32 20 3402823669209384634633746074317682114561] (start0 21 2 3)) = true := by kernel_rfl
theorem noe11 : okTrue ((goF Tryz.prog 21 (orK (KA [32] 2 3) (orK (orK (KL [34] Gnra_s) (orK (KL [34] Gnrb_s) (orK (KL [34] Gnrc_s) (orK (KL [34] Gnrd_s) (orK (KL [34] Gnre_s) (orK (KL [34] Gnrf_s) (orK (KL [34] Gnrg_s) (KL [34] Gnrh_s)))))))) (orK (KM 21 [43, 44, 302] Gnqa_s) (orK (KM 21 [43, 44, 302] Gnqb_s) (KM 21 [43, 44, 302] Gnqc_s))))) 10000000).call 6 [.int .i64 11, .int .i64 11] (start0 21 2 3)) = true := by kernel_rfl
theorem nog11 : okTrue ((goF Tryz.prog 21 (orK (KA [32] 2 3) (orK (orK (KL [34] Gnra_s) (orK (KL [34] Gnrb_s) (orK (KL [34] Gnrc_s) (orK (KL [34] Gnrd_s) (orK (KL [34] Gnre_s) (orK (KL [34] Gnrf_s) (orK (KL [34] Gnrg_s) (KL [34] Gnrh_s)))))))) (orK (KM 21 [43, 44, 302] Gnqa_s) (orK (KM 21 [43, 44, 302] Gnqb_s) (KM 21 [43, 44, 302] Gnqc_s))))) 10000000).call 6 [.int .i64 11, .complex .f32 20 10208471007628153904122599151837560963073] (start0 21 2 3)) = true := by kernel_rfl
theorem nol12 : okTrue ((goF Tryz.prog 21 (orK (KA [32] 2 3) (orK (orK (KL [34] Gnra_s) (orK (KL [34] Gnrb_s) (orK (KL [34] Gnrc_s) (orK (KL [34] Gnrd_s) (orK (KL [34] Gnre_s) (orK (KL [34] Gnrf_s) (orK (KL [34] Gnrg_s) (KL [34] Gnrh_s)))))))) (orK (KM 21 [43, 44, 302] Gnqa_s) (orK (KM 21 [43, 44, 302] Gnqb_s) (KM 21 [43, 44, 302] Gnqc_s))))) 10000000).call 6 [.int .i64 12, .complex .f32 20 3743106036130323098097120681749450326017] (start0 21 2 3)) = true := by kernel_rfl
end Go.Proofs.YtigdbaicoiepiaaGreatDoor.X

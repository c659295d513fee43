/- ShellDown: the runs. -/
import Derived.Test.YtkmjdfcfcfmkdaaGreatDoorGsa
import Derived.Test.YtkmjdfcfcfmkdaaGreatDoorKmj
import Derived.Test.YtkmjdfcfcfmkdaaGreatDoorGsra
import Derived.Test.YtkmjdfcfcfmkdaaGreatDoorGsrb
import Derived.Test.YtkmjdfcfcfmkdaaGreatDoorGsrc
import Derived.Test.YtkmjdfcfcfmkdaaGreatDoorGsrd
import Derived.Test.YtkmjdfcfcfmkdaaGreatDoorGsre
import Derived.Test.YtkmjdfcfcfmkdaaGreatDoorGsrf
import Derived.Test.YtkmjdfcfcfmkdaaGreatDoorGsrg
import Derived.Test.YtkmjdfcfcfmkdaaGreatDoorGsrh
import Derived.Test.YtkmjdfcfcfmkdaaGreatDoorGsri
import Derived.Test.YtkmjdfcfcfmkdaaGreatDoorGsrj
import Derived.Test.YtkmjdfcfcfmkdaaGreatDoorGsrk
import Derived.Test.YtkmjdfcfcfmkdaaGreatDoorGsrl
import Derived.Test.YtkmjdfcfcfmkdaaGreatDoorGsrm
namespace Go.Proofs.YtkmjdfcfcfmkdaaGreatDoor.X
open Go.RowKit S
theorem sd4 : okTrue ((goF Tryz.prog 20 (orK (KA [5] 1 2) (orK (KJ 20) (orK (KTx 22 99) (orK (orK (KM 20 [14, 26, 27] Gsra_s) (orK (KM 20 [14, 17, 26, 81] Gsrb_s) (orK (KM 20 [14, 27, 35] Gsrc_s) (orK (KM 20 [17, 26, 27, 35, 81] Gsrd_s) (orK (KM 20 [17, 27, 35] Gsre_s) (orK (KM 20 [17, 27, 35] Gsrf_s) (orK (KM 20 [17, 27, 35] Gsrg_s) (orK (KM 20 [27, 35] Gsrh_s) (orK (KM 20 [17, 27, 35] Gsri_s) (orK (KM 20 [17, 27] Gsrj_s) (orK (KM 20 [27, 35] Gsrk_s) (orK (KM 20 [17, 27, 35] Gsrl_s) (KM 20 [27, 35] Gsrm_s))))))))))))) (orK (KM 20 [211, 212, 214] Gsqa_s) (orK (KM 20 [211, 212, 214] Gsqb_s) (KM 20 [211, 212, 214] Gsqc_s))))))) 10000000).call 4 [.int .i64 4] (start0 20 1 2)) = true := by kernel_rfl
theorem sd5 : okTrue ((goF Tryz.prog 20 (orK (KA [5] 1 2) (orK (KJ 20) (orK (KTx 22 99) (orK (orK (KM 20 [14, 26, 27] Gsra_s) (orK (KM 20 [14, 17, 26, 81] Gsrb_s) (orK (KM 20 [14, 27, 35] Gsrc_s) (orK (KM 20 [17, 26, 27, 35, 81] Gsrd_s) (orK (KM 20 [17, 27, 35] Gsre_s) (orK (KM 20 [17, 27, 35] Gsrf_s) (orK (KM 20 [17, 27, 35] Gsrg_s) (orK (KM 20 [27, 35] Gsrh_s) (orK (KM 20 [17, 27, 35] Gsri_s) (orK (KM 20 [17, 27] Gsrj_s) (orK (KM 20 [27, 35] Gsrk_s) (orK (KM 20 [17, 27, 35] Gsrl_s) (KM 20 [27, 35] Gsrm_s))))))))))))) (orK (KM 20 [211, 212, 214] Gsqa_s) (orK (KM 20 [211, 212, 214] Gsqb_s) (KM 20 [211, 212, 214] Gsqc_s))))))) 10000000).call 4 [.int .i64 5] (start0 20 1 2)) = true := by kernel_rfl
end Go.Proofs.YtkmjdfcfcfmkdaaGreatDoor.X

/- ShellDown: every call returns true. -/
import Derived.Test.YtkmjdfcfcfmkdaaGreatDoorGsta
import Derived.Test.YtkmjdfcfcfmkdaaGreatDoorGstb
import Derived.Test.YtkmjdfcfcfmkdaaGreatDoorGstc
import Derived.Test.YtkmjdfcfcfmkdaaGreatDoorGstd
import Derived.Test.YtkmjdfcfcfmkdaaGreatDoorGste
import Derived.Test.YtkmjdfcfcfmkdaaGreatDoorGstf
namespace Go.Proofs.YtkmjdfcfcfmkdaaGreatDoor.X
open Go.RowKit S
theorem sd_of {n : Int} (hr : okTrue ((goF Tryz.prog 20 (orK (KA [5] 1 2) (orK (KJ 20) (orK (KTx 22 99) (orK (orK (KM 20 [14, 26, 27] Gsra_s) (orK (KM 20 [14, 17, 26, 81] Gsrb_s) (orK (KM 20 [14, 27, 35] Gsrc_s) (orK (KM 20 [17, 26, 27, 35, 81] Gsrd_s) (orK (KM 20 [17, 27, 35] Gsre_s) (orK (KM 20 [17, 27, 35] Gsrf_s) (orK (KM 20 [17, 27, 35] Gsrg_s) (orK (KM 20 [27, 35] Gsrh_s) (orK (KM 20 [17, 27, 35] Gsri_s) (orK (KM 20 [17, 27] Gsrj_s) (orK (KM 20 [27, 35] Gsrk_s) (orK (KM 20 [17, 27, 35] Gsrl_s) (KM 20 [27, 35] Gsrm_s))))))))))))) (orK (KM 20 [211, 212, 214] Gsqa_s) (orK (KM 20 [211, 212, 214] Gsqb_s) (KM 20 [211, 212, 214] Gsqc_s))))))) 10000000).call 4 [.int .i64 n] (start0 20 1 2)) = true) (w : World) (hT : Lib.Utf8Tabs 1 2 w) : Calls Tryz.prog 4 #[.int .i64 n] w fun r w' => r = .returned (.bool true) ∧ Below w.heap.size w w' :=
  true_of_runF (V := 0) (n := 10000000) (K := orK (KA [5] 1 2) (orK (KJ 20) (orK (KTx 22 99) (orK (orK (KM 20 [14, 26, 27] Gsra_s) (orK (KM 20 [14, 17, 26, 81] Gsrb_s) (orK (KM 20 [14, 27, 35] Gsrc_s) (orK (KM 20 [17, 26, 27, 35, 81] Gsrd_s) (orK (KM 20 [17, 27, 35] Gsre_s) (orK (KM 20 [17, 27, 35] Gsrf_s) (orK (KM 20 [17, 27, 35] Gsrg_s) (orK (KM 20 [27, 35] Gsrh_s) (orK (KM 20 [17, 27, 35] Gsri_s) (orK (KM 20 [17, 27] Gsrj_s) (orK (KM 20 [27, 35] Gsrk_s) (orK (KM 20 [17, 27, 35] Gsrl_s) (KM 20 [27, 35] Gsrm_s))))))))))))) (orK (KM 20 [211, 212, 214] Gsqa_s) (orK (KM 20 [211, 212, 214] Gsqb_s) (KM 20 [211, 212, 214] Gsqc_s))))))) (args := [.int .i64 n]) (args' := [.int .i64 n]) follows (known_or (known_KA (by decide) (by decide) fun g hg => by rw [List.mem_singleton.1 hg]; exact awake30s) (known_or (known_KJ joinC) (known_or (known_KTx cntC idxC) (known_or (known_or (known_KM Gsra_good) (known_or (known_KM Gsrb_good) (known_or (known_KM Gsrc_good) (known_or (known_KM Gsrd_good) (known_or (known_KM Gsre_good) (known_or (known_KM Gsrf_good) (known_or (known_KM Gsrg_good) (known_or (known_KM Gsrh_good) (known_or (known_KM Gsri_good) (known_or (known_KM Gsrj_good) (known_or (known_KM Gsrk_good) (known_or (known_KM Gsrl_good) (known_KM Gsrm_good))))))))))))) (known_or (known_KM Gsqa_good) (known_or (known_KM Gsqb_good) (known_KM Gsqc_good))))))) (by decide) (by decide) (by decide) hr (.cons _ _ _ _ (.int _ _) .nil) w hT
theorem shellDown_any (n : Int) (w : World) (hT : Lib.Utf8Tabs 1 2 w) : Calls Tryz.prog 4 #[.int .i64 n] w fun r w' => r = .returned (.bool true) ∧ Below w.heap.size w w' :=
  match n with
  | .negSucc m => sd_of (sdneg m) w hT
  | .ofNat 0 => sd_of sd0 w hT
  | .ofNat 1 => sd_of sd1 w hT
  | .ofNat 2 => sd_of sd2 w hT
  | .ofNat 3 => sd_of sd3 w hT
  | .ofNat 4 => sd_of sd4 w hT
  | .ofNat 5 => sd_of sd5 w hT
  | .ofNat 6 => sd_of sd6 w hT
  | .ofNat 7 => sd_of sd7 w hT
  | .ofNat 8 => sd_of sd8 w hT
  | .ofNat (m + 9) => sd_of (sdbig m) w hT
end Go.Proofs.YtkmjdfcfcfmkdaaGreatDoor.X

/- NodeOld: what functions of the names give, run by the kernel. -/
import Derived.Test.YtkcgggobcnlnpaaGreatDoorKmi
namespace Go.Proofs.YtkcgggobcnlnpaaGreatDoor.X
open Go.RowKit S
noncomputable def hbG (i : Nat) : Seg := pSeg 23 20 (20 + 0) (nameV i) (.int .i64 (hashN i : Nat))
theorem hb0 : allFrom (fun i => segOk Tryz.prog 20 Kno 10000000 (hbG i)) 340 0 = true := by kernel_rfl
theorem hb1 : allFrom (fun i => segOk Tryz.prog 20 Kno 10000000 (hbG i)) 336 340 = true := by kernel_rfl
theorem hb_good {V : Nat} (j : Nat) (h : j < 676) : Good Tryz.prog 20 V (hbG j) := by
  by_cases h0 : j < 340
  · exact good_from follows known_no hb0 (j := j) (by omega) (by omega)
  exact good_from follows known_no hb1 (j := j) (by omega) (by omega)
end Go.Proofs.YtkcgggobcnlnpaaGreatDoor.X

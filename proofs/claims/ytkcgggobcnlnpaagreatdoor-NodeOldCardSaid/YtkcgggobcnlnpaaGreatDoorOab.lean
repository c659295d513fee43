/- NodeOld: what functions of the names give, run by the kernel. -/
import Derived.Test.YtkcgggobcnlnpaaGreatDoorKmi
namespace Go.Proofs.YtkcgggobcnlnpaaGreatDoor.X
open Go.RowKit S
noncomputable def haG (i : Nat) : Seg := pSeg 133 20 (20 + 0) (nameV i) (.int .u32 (hashN i : Nat))
theorem ha0 : allFrom (fun i => segOk Tryz.prog 20 Kno 10000000 (haG i)) 340 0 = true := by kernel_rfl
theorem ha1 : allFrom (fun i => segOk Tryz.prog 20 Kno 10000000 (haG i)) 336 340 = true := by kernel_rfl
theorem ha_good {V : Nat} (j : Nat) (h : j < 676) : Good Tryz.prog 20 V (haG j) := by
  by_cases h0 : j < 340
  · exact good_from follows known_no ha0 (j := j) (by omega) (by omega)
  exact good_from follows known_no ha1 (j := j) (by omega) (by omega)
end Go.Proofs.YtkcgggobcnlnpaaGreatDoor.X

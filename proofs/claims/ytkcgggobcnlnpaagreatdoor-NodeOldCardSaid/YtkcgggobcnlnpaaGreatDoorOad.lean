/- NodeOld: what functions of the names give, run by the kernel. -/
import Derived.Test.YtkcgggobcnlnpaaGreatDoorKmi
namespace Go.Proofs.YtkcgggobcnlnpaaGreatDoor.X
open Go.RowKit S
noncomputable def naG (i : Nat) : Seg := pSeg 389 20 (20 + 1) (nameV i) (.bool true)
theorem na0 : allFrom (fun i => segOk Tryz.prog 20 Kno 10000000 (naG i)) 170 0 = true := by kernel_rfl
theorem na1 : allFrom (fun i => segOk Tryz.prog 20 Kno 10000000 (naG i)) 170 170 = true := by kernel_rfl
theorem na2 : allFrom (fun i => segOk Tryz.prog 20 Kno 10000000 (naG i)) 170 340 = true := by kernel_rfl
theorem na3 : allFrom (fun i => segOk Tryz.prog 20 Kno 10000000 (naG i)) 166 510 = true := by kernel_rfl
theorem na_good {V : Nat} (j : Nat) (h : j < 676) : Good Tryz.prog 20 V (naG j) := by
  by_cases h0 : j < 170
  · exact good_from follows known_no na0 (j := j) (by omega) (by omega)
  by_cases h1 : j < 340
  · exact good_from follows known_no na1 (j := j) (by omega) (by omega)
  by_cases h2 : j < 510
  · exact good_from follows known_no na2 (j := j) (by omega) (by omega)
  exact good_from follows known_no na3 (j := j) (by omega) (by omega)
end Go.Proofs.YtkcgggobcnlnpaaGreatDoor.X

/- NodeOld: what functions of the names give, run by the kernel. -/
import Derived.Test.YtkcgggobcnlnpaaGreatDoorKmi
namespace Go.Proofs.YtkcgggobcnlnpaaGreatDoor.X
open Go.RowKit S
noncomputable def stG (i : Nat) : Seg := pSeg 5 20 (20 + 1) (.int .i64 (stX i)) (nameV ((i + 1) % 676))
theorem st0 : allFrom (fun i => segOk Tryz.prog 20 Kno 10000000 (stG i)) 460 0 = true := by kernel_rfl
theorem st1 : allFrom (fun i => segOk Tryz.prog 20 Kno 10000000 (stG i)) 460 460 = true := by kernel_rfl
theorem st2 : allFrom (fun i => segOk Tryz.prog 20 Kno 10000000 (stG i)) 456 920 = true := by kernel_rfl
theorem st_good {V : Nat} (j : Nat) (h : j < 1376) : Good Tryz.prog 20 V (stG j) := by
  by_cases h0 : j < 460
  · exact good_from follows known_no st0 (j := j) (by omega) (by omega)
  by_cases h1 : j < 920
  · exact good_from follows known_no st1 (j := j) (by omega) (by omega)
  exact good_from follows known_no st2 (j := j) (by omega) (by omega)
end Go.Proofs.YtkcgggobcnlnpaaGreatDoor.X

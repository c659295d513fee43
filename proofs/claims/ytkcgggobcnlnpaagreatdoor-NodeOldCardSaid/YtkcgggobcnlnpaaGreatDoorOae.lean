/- NodeOld: what functions of the names give, run by the kernel. -/
import Derived.Test.YtkcgggobcnlnpaaGreatDoorKmi
namespace Go.Proofs.YtkcgggobcnlnpaaGreatDoor.X
open Go.RowKit S
noncomputable def nbG (i : Nat) : Seg := pSeg 214 20 (20 + 9) (nameV i) (.bool true)
theorem nb0 : allFrom (fun i => segOk Tryz.prog 20 Kno 10000000 (nbG i)) 100 0 = true := by kernel_rfl
theorem nb1 : allFrom (fun i => segOk Tryz.prog 20 Kno 10000000 (nbG i)) 100 100 = true := by kernel_rfl
theorem nb2 : allFrom (fun i => segOk Tryz.prog 20 Kno 10000000 (nbG i)) 100 200 = true := by kernel_rfl
theorem nb3 : allFrom (fun i => segOk Tryz.prog 20 Kno 10000000 (nbG i)) 100 300 = true := by kernel_rfl
theorem nb4 : allFrom (fun i => segOk Tryz.prog 20 Kno 10000000 (nbG i)) 100 400 = true := by kernel_rfl
theorem nb5 : allFrom (fun i => segOk Tryz.prog 20 Kno 10000000 (nbG i)) 100 500 = true := by kernel_rfl
theorem nb6 : allFrom (fun i => segOk Tryz.prog 20 Kno 10000000 (nbG i)) 76 600 = true := by kernel_rfl
theorem nb_good {V : Nat} (j : Nat) (h : j < 676) : Good Tryz.prog 20 V (nbG j) := by
  by_cases h0 : j < 100
  · exact good_from follows known_no nb0 (j := j) (by omega) (by omega)
  by_cases h1 : j < 200
  · exact good_from follows known_no nb1 (j := j) (by omega) (by omega)
  by_cases h2 : j < 300
  · exact good_from follows known_no nb2 (j := j) (by omega) (by omega)
  by_cases h3 : j < 400
  · exact good_from follows known_no nb3 (j := j) (by omega) (by omega)
  by_cases h4 : j < 500
  · exact good_from follows known_no nb4 (j := j) (by omega) (by omega)
  by_cases h5 : j < 600
  · exact good_from follows known_no nb5 (j := j) (by omega) (by omega)
  exact good_from follows known_no nb6 (j := j) (by omega) (by omega)
end Go.Proofs.YtkcgggobcnlnpaaGreatDoor.X

/- The type of strconv's two errors, found by its name. -/
import Derived.Test.YtkcgggobcnlnpaaGreatDoorProg
import Derived.KernelRfl
import Derived.Lay
import Derived.Test.YtkcgggobcnlnpaaGreatDoorRows
namespace Go.Proofs.YtkcgggobcnlnpaaGreatDoor
def ersN : String := match (Rows.laid_strconv_ErrSyntax : DataW Unit) with | .iface s _ => s | _ => ""
end Go.Proofs.YtkcgggobcnlnpaaGreatDoor
namespace Go.Proofs.YtkcgggobcnlnpaaGreatDoor.Ers
open Go
set_option maxRecDepth 100000
noncomputable def isErr (u : Nat) : Bool := Tryz.prog.typeName? 3 u == some ersN
theorem e0 : (List.range' 0 75).all (fun u => !isErr u) = true := by kernel_rfl
theorem e1 : (List.range' 75 75).all (fun u => !isErr u) = true := by kernel_rfl
theorem e2 : (List.range' 150 75).all (fun u => !isErr u) = true := by kernel_rfl
theorem e3 : (List.range' 225 75).all (fun u => !isErr u) = true := by kernel_rfl
theorem e4 : (List.range' 300 75).all (fun u => !isErr u) = true := by kernel_rfl
theorem e5 : (List.range' 375 75).all (fun u => !isErr u) = true := by kernel_rfl
theorem e6 : (List.range' 450 75).all (fun u => !isErr u) = true := by kernel_rfl
theorem e7 : (List.range' 525 75).all (fun u => !isErr u) = true := by kernel_rfl
theorem e8 : (List.range' 600 75).all (fun u => !isErr u) = true := by kernel_rfl
theorem e9 : (List.range' 675 75).all (fun u => !isErr u) = true := by kernel_rfl
theorem e10 : (List.range' 750 32).all (fun u => !isErr u) = true := by kernel_rfl
theorem at_ : isErr 782 = true := by kernel_rfl
theorem size : Tryz.prog.types.size = 801 := by kernel_rfl
theorem no {a m j : Nat} (h : (List.range' a m).all (fun u => !isErr u) = true) (h1 : a ≤ j) (h2 : j < a + m) : (!isErr j) = true := List.all_eq_true.1 h j (List.mem_range'.2 ⟨j - a, by omega, by omega⟩)
theorem below (j : Nat) (h : j < 782) : (!isErr j) = true := by
  by_cases h0 : j < 75
  · exact no e0 (by omega) (by omega)
  by_cases h1 : j < 150
  · exact no e1 (by omega) (by omega)
  by_cases h2 : j < 225
  · exact no e2 (by omega) (by omega)
  by_cases h3 : j < 300
  · exact no e3 (by omega) (by omega)
  by_cases h4 : j < 375
  · exact no e4 (by omega) (by omega)
  by_cases h5 : j < 450
  · exact no e5 (by omega) (by omega)
  by_cases h6 : j < 525
  · exact no e6 (by omega) (by omega)
  by_cases h7 : j < 600
  · exact no e7 (by omega) (by omega)
  by_cases h8 : j < 675
  · exact no e8 (by omega) (by omega)
  by_cases h9 : j < 750
  · exact no e9 (by omega) (by omega)
  exact no e10 (by omega) (by omega)
theorem found : (List.range Tryz.prog.types.size).find? (fun u => Tryz.prog.typeName? 3 u == some ersN) = some 782 := by
  rw [size]
  exact List.find?_range_eq_some.2 ⟨at_, by simp, below⟩
theorem found' (s : String) (hs : ersN = s) : (List.range Tryz.prog.types.size).find? (fun u => Tryz.prog.typeName? 3 u == some s) = some 782 := by
  subst hs
  exact found
end Go.Proofs.YtkcgggobcnlnpaaGreatDoor.Ers

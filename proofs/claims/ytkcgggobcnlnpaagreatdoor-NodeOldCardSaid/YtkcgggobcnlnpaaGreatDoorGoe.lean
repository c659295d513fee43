/- No function of the program starts a goroutine (chunks of 100 functions). -/
import Derived.Test.YtkcgggobcnlnpaaGreatDoorProg
import Derived.KernelRfl
import GoSem.ClaimGoes
namespace Go.Proofs.YtkcgggobcnlnpaaGreatDoor.Goe
open Go
set_option maxRecDepth 100000
theorem g0 : ((Tryz.prog.funcs.toList.drop 0).take 100).all (fun fn => !fn.goes) = true := by kernel_rfl
theorem g1 : ((Tryz.prog.funcs.toList.drop 100).take 100).all (fun fn => !fn.goes) = true := by kernel_rfl
theorem g2 : ((Tryz.prog.funcs.toList.drop 200).take 100).all (fun fn => !fn.goes) = true := by kernel_rfl
theorem g3 : ((Tryz.prog.funcs.toList.drop 300).take 100).all (fun fn => !fn.goes) = true := by kernel_rfl
theorem g4 : ((Tryz.prog.funcs.toList.drop 400).take 100).all (fun fn => !fn.goes) = true := by kernel_rfl
theorem g5 : ((Tryz.prog.funcs.toList.drop 500).take 100).all (fun fn => !fn.goes) = true := by kernel_rfl
theorem g6 : ((Tryz.prog.funcs.toList.drop 600).take 100).all (fun fn => !fn.goes) = true := by kernel_rfl
theorem ge : Tryz.prog.funcs.toList.drop 700 = [] := by kernel_rfl
theorem step {l : List Func} {m : Nat} (h : (l.take m).all (fun fn => !fn.goes) = true) (k : (l.drop m).all (fun fn => !fn.goes) = true) : l.all (fun fn => !fn.goes) = true := by
  rw [← List.take_append_drop m l, List.all_append, h, k]; rfl
theorem r7 : (Tryz.prog.funcs.toList.drop 700).all (fun fn => !fn.goes) = true := by rw [ge]; rfl
theorem r6 : (Tryz.prog.funcs.toList.drop 600).all (fun fn => !fn.goes) = true := step g6 (by rw [List.drop_drop]; exact r7)
theorem r5 : (Tryz.prog.funcs.toList.drop 500).all (fun fn => !fn.goes) = true := step g5 (by rw [List.drop_drop]; exact r6)
theorem r4 : (Tryz.prog.funcs.toList.drop 400).all (fun fn => !fn.goes) = true := step g4 (by rw [List.drop_drop]; exact r5)
theorem r3 : (Tryz.prog.funcs.toList.drop 300).all (fun fn => !fn.goes) = true := step g3 (by rw [List.drop_drop]; exact r4)
theorem r2 : (Tryz.prog.funcs.toList.drop 200).all (fun fn => !fn.goes) = true := step g2 (by rw [List.drop_drop]; exact r3)
theorem r1 : (Tryz.prog.funcs.toList.drop 100).all (fun fn => !fn.goes) = true := step g1 (by rw [List.drop_drop]; exact r2)
theorem r0 : (Tryz.prog.funcs.toList.drop 0).all (fun fn => !fn.goes) = true := step g0 (by rw [List.drop_drop]; exact r1)
theorem one {g : Nat} : (Tryz.prog.funcs[g]?).any Func.goes = false := by
  cases h : Tryz.prog.funcs[g]? with
  | none => rfl
  | some fn =>
    have h1 : fn ∈ Tryz.prog.funcs.toList.drop 0 := by
      rw [List.drop_zero]
      exact Array.mem_toList_iff.2 (Array.mem_of_getElem? h)
    have h2 := List.all_eq_true.1 r0 fn h1
    simpa using h2
theorem all : Tryz.prog.funcs.any Func.goes = false := by
  rw [← Array.any_toList, List.any_eq_false]
  intro fn h
  have h2 := List.all_eq_true.1 r0 fn (by rw [List.drop_zero]; exact h)
  simpa using h2
theorem goes_no (f : FuncId) : Tryz.prog.goes f = false := by
  unfold Program.goes
  rw [all, Bool.and_false, Bool.or_false, List.any_eq_false]
  intro g _
  rw [one]
  decide
end Go.Proofs.YtkcgggobcnlnpaaGreatDoor.Goe

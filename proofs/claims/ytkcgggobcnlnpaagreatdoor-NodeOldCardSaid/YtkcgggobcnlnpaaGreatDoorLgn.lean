/- What a list of laid variables comes to, once its cells are known: for any program. -/
import Derived.Test.YtkcgggobcnlnpaaGreatDoorFct
import Derived.Lay
import Derived.WideWitness
namespace Go.Proofs.YtkcgggobcnlnpaaGreatDoor.Lgn
open Go
section
variable {P : Program} {w w' : World} {l : List (String × DataW Unit)} {y : List (Nat × List Value) × List Obj}
theorem fits (h : Lay.layList P w.heap.size l = some y) (h1 : (y.1.map (·.1)).Nodup) (h2 : (y.1.all fun r => Lay.isRow w.heap.toList[r.1]?) = true) : w.layFits P l [] = true := by
  unfold World.layFits
  rw [h]
  dsimp only
  rw [decide_eq_true h1]
  simpa using h2
theorem ifaces (h : Lay.layList P w.heap.size l = some y) (h1 : (y.1.all fun r => r.2.all (Lay.okV P w')) = true) (h2 : y.2.all (Lay.okO P w') = true) : w.layIfaces P l w' = true := by
  unfold World.layIfaces
  rw [h]
  dsimp only
  rw [h1, h2]
  rfl
theorem vars (h : Lay.layList P w.heap.size l = some y) : w.layVars P l = { w with heap := ⟨Lay.setRows w.heap.toList y.1 ++ y.2⟩ } := by
  unfold World.layVars
  rw [h]
end
theorem size13 (os : Os) : (World.holding Tryz.prog os ⟨#[], #[], []⟩).heap.size = 12 := by unfold World.holding World.settled begin; rw [Fct.waiting_eq]; kernel_rfl
theorem at13 {l : List (String × DataW Unit)} {y : List (Nat × List Value) × List Obj} (h : Lay.layList Tryz.prog 12 l = some y) (os : Os) : Lay.layList Tryz.prog (World.holding Tryz.prog os ⟨#[], #[], []⟩).heap.size l = some y := by
  rw [size13]; exact h
theorem all_of {l : List (String × DataW Unit)} {y : List (Nat × List Value) × List Obj} (h : Lay.layList Tryz.prog 12 l = some y) (os : Os) :
    World.laidAll Tryz.prog os l = { World.holding Tryz.prog os ⟨#[], #[], []⟩ with heap := ⟨Lay.setRows (World.holding Tryz.prog os ⟨#[], #[], []⟩).heap.toList y.1 ++ y.2⟩ } := vars (at13 h os)
end Go.Proofs.YtkcgggobcnlnpaaGreatDoor.Lgn

/- The law NodeOld returns true for every input; its one condition is the card's own: Go's UTF-8 tables are laid as the program's text says. -/
import Derived.Test.YtkcgggobcnlnpaaGreatDoorCards
import Derived.Test.YtkcgggobcnlnpaaGreatDoorTnodeold
import Derived.Test.YtkcgggobcnlnpaaGreatDoorPnodeold
import Derived.SevenTiedAt
namespace Go.Proofs.YtkcgggobcnlnpaaGreatDoor.nodeOld
open Go
theorem c1 : Rows.nodeOldRow.wfByText (OpenSpec.ofChange Rows.nodeOldSpec) = true := by kernel_rfl
theorem c2 : Tryz.pinned.checked.prog.mainIs = some (true, ("812fd23c7a0229c52b16edace2ae71922f317da684f6c4abf1597a9e61e87eb1" : String).toList) := by kernel_rfl
theorem c3 : true = Tryz.pinned.checked.prog.looks [] := by kernel_rfl
theorem c4_0 : Tryz.pinned.checked.prog.wantsStandIn 3 = false := by kernel_rfl
theorem c6 (f : FuncId) (fn : Func) (hf : Tryz.pinned.checked.prog.funcNamed Rows.nodeOldRow.func = some f) (hfn : Tryz.pinned.checked.prog.funcs[f]? = some fn) : true = Tryz.pinned.checked.prog.looks [] ∧ ∀ (j : Nat) t, fn.params[j]? = some t → Tryz.pinned.checked.prog.wantsStandIn t = false := by
  have h1 : 3 = f := Option.some.inj (z1.symm.trans hf)
  subst h1
  have h2 : Tryz.f3 = fn := Option.some.inj ((Tryz.func3).symm.trans hfn)
  subst h2
  refine ⟨c3, fun j t ht => ?_⟩
  rw [Tryz.params3] at ht
  have hm : t ∈ [3] := by
    have h := Array.mem_of_getElem? ht
    have key : ∀ x ∈ (#[3, 3] : Array Nat).toList, x ∈ [3] := by decide
    exact key t (Array.mem_toList_iff.mpr h)
  simp only [List.mem_cons, List.not_mem_nil, or_false] at hm
  rcases hm with rfl
  · exact c4_0
theorem card : Rows.NodeOldCardSaid :=
  Claim7.holds_tied_plain_at .later [] [.data, .data, .data, .sentinel, .sentinel, .pinned, .data] true (true, "812fd23c7a0229c52b16edace2ae71922f317da684f6c4abf1597a9e61e87eb1") true
    over (fun _ h => by cases h) c1 (fun _ h => by cases h) nodeOldTied.row_tie rfl ⟨rfl, rfl⟩ c2 rfl c6 c5
end Go.Proofs.YtkcgggobcnlnpaaGreatDoor.nodeOld
namespace Go.Proofs.YtkcgggobcnlnpaaGreatDoor
theorem nodeOld_card : Rows.NodeOldCardSaid := nodeOld.card
#print axioms nodeOld_card
end Go.Proofs.YtkcgggobcnlnpaaGreatDoor

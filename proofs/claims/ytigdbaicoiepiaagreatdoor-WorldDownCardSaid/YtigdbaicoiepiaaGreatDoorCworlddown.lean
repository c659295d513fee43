/- The law WorldDown returns true for every input; its one condition is the card's own: Go's UTF-8 tables are laid as the program's text says. -/
import Derived.Test.YtigdbaicoiepiaaGreatDoorCards
import Derived.Test.YtigdbaicoiepiaaGreatDoorTworlddown
import Derived.Test.YtigdbaicoiepiaaGreatDoorPworlddown
import Derived.SevenTiedAt
namespace Go.Proofs.YtigdbaicoiepiaaGreatDoor.worldDown
open Go
theorem c1 : Rows.worldDownRow.wfByText (OpenSpec.ofChange Rows.worldDownSpec) = true := by kernel_rfl
theorem c2 : Tryz.pinned.checked.prog.mainIs = some (true, ("57cd2d8c564460d929b19e91cf4d612b87a5c36c3e54c7fa6c6eda086ff8f1f1" : String).toList) := by kernel_rfl
theorem c3 : true = Tryz.pinned.checked.prog.looks [] := by kernel_rfl
theorem c4_0 : Tryz.pinned.checked.prog.wantsStandIn 3 = false := by kernel_rfl
theorem c4_1 : Tryz.pinned.checked.prog.wantsStandIn 34 = false := by kernel_rfl
theorem c6 (f : FuncId) (fn : Func) (hf : Tryz.pinned.checked.prog.funcNamed Rows.worldDownRow.func = some f) (hfn : Tryz.pinned.checked.prog.funcs[f]? = some fn) : true = Tryz.pinned.checked.prog.looks [] ∧ ∀ (j : Nat) t, fn.params[j]? = some t → Tryz.pinned.checked.prog.wantsStandIn t = false := by
  have h1 : 5 = f := Option.some.inj (z1.symm.trans hf)
  subst h1
  have h2 : Tryz.f5 = fn := Option.some.inj ((Tryz.func5).symm.trans hfn)
  subst h2
  refine ⟨c3, fun j t ht => ?_⟩
  rw [Tryz.params5] at ht
  have hm : t ∈ [3, 34] := by
    have h := Array.mem_of_getElem? ht
    have key : ∀ x ∈ (#[3, 34] : Array Nat).toList, x ∈ [3, 34] := by decide
    exact key t (Array.mem_toList_iff.mpr h)
  simp only [List.mem_cons, List.not_mem_nil, or_false] at hm
  rcases hm with rfl | rfl
  · exact c4_0
  · exact c4_1
theorem card : Rows.WorldDownCardSaid :=
  Claim7.holds_tied_plain_at .later [] [.data, .data, .data, .sentinel, .sentinel, .pinned, .data] true (true, "57cd2d8c564460d929b19e91cf4d612b87a5c36c3e54c7fa6c6eda086ff8f1f1") true
    over (fun _ h => by cases h) c1 (fun _ h => by cases h) worldDownTied.row_tie rfl ⟨rfl, rfl⟩ c2 rfl c6 c5
end Go.Proofs.YtigdbaicoiepiaaGreatDoor.worldDown
namespace Go.Proofs.YtigdbaicoiepiaaGreatDoor
theorem worldDown_card : Rows.WorldDownCardSaid := worldDown.card
#print axioms worldDown_card
end Go.Proofs.YtigdbaicoiepiaaGreatDoor

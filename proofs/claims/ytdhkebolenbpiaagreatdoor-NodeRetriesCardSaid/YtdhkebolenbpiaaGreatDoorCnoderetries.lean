/- The law NodeRetries returns true for every input; its one condition is the card's own: Go's UTF-8 tables are laid as the program's text says. -/
import Derived.Test.YtdhkebolenbpiaaGreatDoorCards
import Derived.Test.YtdhkebolenbpiaaGreatDoorTnoderetries
import Derived.Test.YtdhkebolenbpiaaGreatDoorPnoderetries
import Derived.SevenTiedAt
namespace Go.Proofs.YtdhkebolenbpiaaGreatDoor.nodeRetries
open Go
theorem c1 : Rows.nodeRetriesRow.wfByText (OpenSpec.ofChange Rows.nodeRetriesSpec) = true := by kernel_rfl
theorem c2 : Tryz.pinned.checked.prog.mainIs = some (true, ("37308058a0e5f6f8c45a5fcea61946e4faea5a7dc4add84aa1ca99da173dcf06" : String).toList) := by kernel_rfl
theorem c3 : true = Tryz.pinned.checked.prog.looks [] := by kernel_rfl
theorem c4_0 : Tryz.pinned.checked.prog.wantsStandIn 9 = false := by kernel_rfl
theorem c4_1 : Tryz.pinned.checked.prog.wantsStandIn 3 = false := by kernel_rfl
theorem c6 (f : FuncId) (fn : Func) (hf : Tryz.pinned.checked.prog.funcNamed Rows.nodeRetriesRow.func = some f) (hfn : Tryz.pinned.checked.prog.funcs[f]? = some fn) : true = Tryz.pinned.checked.prog.looks [] ∧ ∀ (j : Nat) t, fn.params[j]? = some t → Tryz.pinned.checked.prog.wantsStandIn t = false := by
  have h1 : 3 = f := Option.some.inj (z1.symm.trans hf)
  subst h1
  have h2 : Tryz.f3 = fn := Option.some.inj ((Tryz.func3).symm.trans hfn)
  subst h2
  refine ⟨c3, fun j t ht => ?_⟩
  rw [Tryz.params3] at ht
  have hm : t ∈ [9, 3] := by
    have h := Array.mem_of_getElem? ht
    have key : ∀ x ∈ (#[9, 3, 3] : Array Nat).toList, x ∈ [9, 3] := by decide
    exact key t (Array.mem_toList_iff.mpr h)
  simp only [List.mem_cons, List.not_mem_nil, or_false] at hm
  rcases hm with rfl | rfl
  · exact c4_0
  · exact c4_1
theorem card : Rows.NodeRetriesCardSaid :=
  Claim7.holds_tied_plain_at .later [] [.data, .data, .data, .data, .sentinel, .sentinel, .pinned] true (true, "37308058a0e5f6f8c45a5fcea61946e4faea5a7dc4add84aa1ca99da173dcf06") true
    over (fun _ h => by cases h) c1 (fun _ h => by cases h) nodeRetriesTied.row_tie rfl ⟨rfl, rfl⟩ c2 rfl c6 c5
end Go.Proofs.YtdhkebolenbpiaaGreatDoor.nodeRetries
namespace Go.Proofs.YtdhkebolenbpiaaGreatDoor
theorem nodeRetries_card : Rows.NodeRetriesCardSaid := nodeRetries.card
#print axioms nodeRetries_card
end Go.Proofs.YtdhkebolenbpiaaGreatDoor

/- The law ShellCalls returns true for every input; its one condition is the card's own: Go's UTF-8 tables are laid as the program's text says. -/
import Derived.Test.YteooccaicheleaaGreatDoorCards
import Derived.Test.YteooccaicheleaaGreatDoorTshellcalls
import Derived.Test.YteooccaicheleaaGreatDoorPshellcalls
import Derived.SevenTiedAt
namespace Go.Proofs.YteooccaicheleaaGreatDoor.shellCalls
open Go
theorem c1 : Rows.shellCallsRow.wfByText (OpenSpec.ofChange Rows.shellCallsSpec) = true := by kernel_rfl
theorem c2 : Tryz.pinned.checked.prog.mainIs = some (true, ("cd75647a3f6347451b3d6333484eaea04ce94904dfab51fcec0a6d6c96b0cbaf" : String).toList) := by kernel_rfl
theorem c3 : true = Tryz.pinned.checked.prog.looks [] := by kernel_rfl
theorem c4_0 : Tryz.pinned.checked.prog.wantsStandIn 3 = false := by kernel_rfl
theorem c6 (f : FuncId) (fn : Func) (hf : Tryz.pinned.checked.prog.funcNamed Rows.shellCallsRow.func = some f) (hfn : Tryz.pinned.checked.prog.funcs[f]? = some fn) : true = Tryz.pinned.checked.prog.looks [] ∧ ∀ (j : Nat) t, fn.params[j]? = some t → Tryz.pinned.checked.prog.wantsStandIn t = false := by
  have h1 : 6 = f := Option.some.inj (z1.symm.trans hf)
  subst h1
  have h2 : Tryz.f6 = fn := Option.some.inj ((Tryz.func6).symm.trans hfn)
  subst h2
  refine ⟨c3, fun j t ht => ?_⟩
  rw [Tryz.params6] at ht
  have hm : t ∈ [3] := by
    have h := Array.mem_of_getElem? ht
    have key : ∀ x ∈ (#[3] : Array Nat).toList, x ∈ [3] := by decide
    exact key t (Array.mem_toList_iff.mpr h)
  simp only [List.mem_cons, List.not_mem_nil, or_false] at hm
  rcases hm with rfl
  · exact c4_0
theorem card : Rows.ShellCallsCardSaid :=
  Claim7.holds_tied_plain_at .later [] [.pinned, .data, .sentinel, .sentinel, .data, .data, .data] true (true, "cd75647a3f6347451b3d6333484eaea04ce94904dfab51fcec0a6d6c96b0cbaf") true
    over (fun _ h => by cases h) c1 (fun _ h => by cases h) shellCallsTied.row_tie rfl ⟨rfl, rfl⟩ c2 rfl c6 c5
end Go.Proofs.YteooccaicheleaaGreatDoor.shellCalls
namespace Go.Proofs.YteooccaicheleaaGreatDoor
theorem shellCalls_card : Rows.ShellCallsCardSaid := shellCalls.card
#print axioms shellCalls_card
end Go.Proofs.YteooccaicheleaaGreatDoor

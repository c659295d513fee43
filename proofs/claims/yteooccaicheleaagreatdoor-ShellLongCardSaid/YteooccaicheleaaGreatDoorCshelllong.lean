/- The law ShellLong returns true for every input; its one condition is the card's own: Go's UTF-8 tables are laid as the program's text says. -/
import Derived.Test.YteooccaicheleaaGreatDoorCards
import Derived.Test.YteooccaicheleaaGreatDoorTshelllong
import Derived.Test.YteooccaicheleaaGreatDoorPshelllong
import Derived.SevenTiedAt
namespace Go.Proofs.YteooccaicheleaaGreatDoor.shellLong
open Go
theorem c1 : Rows.shellLongRow.wfByText (OpenSpec.ofChange Rows.shellLongSpec) = true := by kernel_rfl
theorem c2 : Tryz.pinned.checked.prog.mainIs = some (true, ("cd75647a3f6347451b3d6333484eaea04ce94904dfab51fcec0a6d6c96b0cbaf" : String).toList) := by kernel_rfl
theorem c3 : true = Tryz.pinned.checked.prog.looks [] := by kernel_rfl
theorem c4_0 : Tryz.pinned.checked.prog.wantsStandIn 9 = false := by kernel_rfl
theorem c4_1 : Tryz.pinned.checked.prog.wantsStandIn 3 = false := by kernel_rfl
theorem c6 (f : FuncId) (fn : Func) (hf : Tryz.pinned.checked.prog.funcNamed Rows.shellLongRow.func = some f) (hfn : Tryz.pinned.checked.prog.funcs[f]? = some fn) : true = Tryz.pinned.checked.prog.looks [] ∧ ∀ (j : Nat) t, fn.params[j]? = some t → Tryz.pinned.checked.prog.wantsStandIn t = false := by
  have h1 : 5 = f := Option.some.inj (z1.symm.trans hf)
  subst h1
  have h2 : Tryz.f5 = fn := Option.some.inj ((Tryz.func5).symm.trans hfn)
  subst h2
  refine ⟨c3, fun j t ht => ?_⟩
  rw [Tryz.params5] at ht
  have hm : t ∈ [9, 3] := by
    have h := Array.mem_of_getElem? ht
    have key : ∀ x ∈ (#[9, 3] : Array Nat).toList, x ∈ [9, 3] := by decide
    exact key t (Array.mem_toList_iff.mpr h)
  simp only [List.mem_cons, List.not_mem_nil, or_false] at hm
  rcases hm with rfl | rfl
  · exact c4_0
  · exact c4_1
theorem card : Rows.ShellLongCardSaid :=
  Claim7.holds_tied_plain_at .later [] [.pinned, .data, .sentinel, .sentinel, .data, .data, .data] true (true, "cd75647a3f6347451b3d6333484eaea04ce94904dfab51fcec0a6d6c96b0cbaf") true
    over (fun _ h => by cases h) c1 (fun _ h => by cases h) shellLongTied.row_tie rfl ⟨rfl, rfl⟩ c2 rfl c6 c5
end Go.Proofs.YteooccaicheleaaGreatDoor.shellLong
namespace Go.Proofs.YteooccaicheleaaGreatDoor
theorem shellLong_card : Rows.ShellLongCardSaid := shellLong.card
#print axioms shellLong_card
end Go.Proofs.YteooccaicheleaaGreatDoor

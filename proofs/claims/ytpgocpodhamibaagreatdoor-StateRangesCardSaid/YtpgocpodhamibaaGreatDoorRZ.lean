/- The law StateRanges returns true for every input; its one condition is the card's own: Go's UTF-8 tables are laid as the program's text says. -/
import Derived.Test.YtpgocpodhamibaaGreatDoorCards
import Derived.Test.YtpgocpodhamibaaGreatDoorTie
import Derived.Test.YtpgocpodhamibaaGreatDoorRY
import Derived.SevenTiedAt
namespace Go.Proofs.YtpgocpodhamibaaGreatDoor.stateRanges
open Go
theorem c1 : Rows.stateRangesRow.wfByText (OpenSpec.ofChange Rows.stateRangesSpec) = true := by kernel_rfl
theorem c2 : Tryz.pinned.checked.prog.mainIs = some (true, ("81e48e3176a2dbf9b60eb8153578aaa5fcd2a84a553f7400726290e84caa002f" : String).toList) := by kernel_rfl
theorem c3 : true = Tryz.pinned.checked.prog.looks [] := by kernel_rfl
theorem c4_0 : Tryz.pinned.checked.prog.wantsStandIn 3 = false := by kernel_rfl
theorem c4_1 : Tryz.pinned.checked.prog.wantsStandIn 48 = false := by kernel_rfl
theorem c5 : false = Rows.stateRangesRow.goesBy Tryz.pinned.checked.prog := by kernel_rfl
theorem c6 (f : FuncId) (fn : Func) (hf : Tryz.pinned.checked.prog.funcNamed Rows.stateRangesRow.func = some f) (hfn : Tryz.pinned.checked.prog.funcs[f]? = some fn) : true = Tryz.pinned.checked.prog.looks [] ∧ ∀ (j : Nat) t, fn.params[j]? = some t → Tryz.pinned.checked.prog.wantsStandIn t = false := by
  have h1 : 4 = f := Option.some.inj (z1.symm.trans hf)
  subst h1
  have h2 : Tryz.f4 = fn := Option.some.inj (Tryz.func4.symm.trans hfn)
  subst h2
  refine ⟨c3, fun j t ht => ?_⟩
  rw [Tryz.params4] at ht
  have hm : t ∈ [3, 48] := by
    have := Array.mem_of_getElem? ht
    simp at this ⊢
    omega
  simp only [List.mem_cons, List.not_mem_nil, or_false] at hm
  rcases hm with rfl | rfl
  · exact c4_0
  · exact c4_1
theorem card : Rows.StateRangesCardSaid :=
  Claim7.holds_tied_plain_at .later [] [.data, .pinned] true (true, "81e48e3176a2dbf9b60eb8153578aaa5fcd2a84a553f7400726290e84caa002f") true
    over (fun _ h => by cases h) c1 (fun _ h => by cases h) stateRanges_row_tie rfl ⟨rfl, rfl⟩ c2 rfl c6 c5
end Go.Proofs.YtpgocpodhamibaaGreatDoor.stateRanges
namespace Go.Proofs.YtpgocpodhamibaaGreatDoor
theorem stateRanges_card : Rows.StateRangesCardSaid := stateRanges.card
#print axioms stateRanges_card
end Go.Proofs.YtpgocpodhamibaaGreatDoor

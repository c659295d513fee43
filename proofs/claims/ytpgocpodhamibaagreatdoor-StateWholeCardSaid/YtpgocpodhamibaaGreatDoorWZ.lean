/- The law StateWhole returns true for every input; its one condition is the card's own: Go's UTF-8 tables are laid as the program's text says. -/
import Derived.Test.YtpgocpodhamibaaGreatDoorCards
import Derived.Test.YtpgocpodhamibaaGreatDoorTie
import Derived.Test.YtpgocpodhamibaaGreatDoorW05
import Derived.SevenTiedAt
namespace Go.Proofs.YtpgocpodhamibaaGreatDoor.stateWhole
open Go
theorem c1 : Rows.stateWholeRow.wfByText (OpenSpec.ofChange Rows.stateWholeSpec) = true := by kernel_rfl
theorem c2 : Tryz.pinned.checked.prog.mainIs = some (true, ("81e48e3176a2dbf9b60eb8153578aaa5fcd2a84a553f7400726290e84caa002f" : String).toList) := by kernel_rfl
theorem c3 : true = Tryz.pinned.checked.prog.looks [] := by kernel_rfl
theorem c4_0 : Tryz.pinned.checked.prog.wantsStandIn 32 = false := by kernel_rfl
theorem c4_1 : Tryz.pinned.checked.prog.wantsStandIn 4 = false := by kernel_rfl
theorem c5 : false = Rows.stateWholeRow.goesBy Tryz.pinned.checked.prog := by kernel_rfl
theorem c6 (f : FuncId) (fn : Func) (hf : Tryz.pinned.checked.prog.funcNamed Rows.stateWholeRow.func = some f) (hfn : Tryz.pinned.checked.prog.funcs[f]? = some fn) : true = Tryz.pinned.checked.prog.looks [] ∧ ∀ (j : Nat) t, fn.params[j]? = some t → Tryz.pinned.checked.prog.wantsStandIn t = false := by
  have h1 : 9 = f := Option.some.inj (z1.symm.trans hf)
  subst h1
  have h2 : Tryz.f9 = fn := Option.some.inj (Tryz.func9.symm.trans hfn)
  subst h2
  refine ⟨c3, fun j t ht => ?_⟩
  rw [Tryz.params9] at ht
  have hm : t ∈ [32, 4] := by
    have := Array.mem_of_getElem? ht
    simp at this ⊢
    omega
  simp only [List.mem_cons, List.not_mem_nil, or_false] at hm
  rcases hm with rfl | rfl
  · exact c4_0
  · exact c4_1
theorem card : Rows.StateWholeCardSaid :=
  Claim7.holds_tied_plain_at .later [] [.data, .pinned] true (true, "81e48e3176a2dbf9b60eb8153578aaa5fcd2a84a553f7400726290e84caa002f") true
    over (fun _ h => by cases h) c1 (fun _ h => by cases h) stateWhole_row_tie rfl ⟨rfl, rfl⟩ c2 rfl c6 c5
end Go.Proofs.YtpgocpodhamibaaGreatDoor.stateWhole
namespace Go.Proofs.YtpgocpodhamibaaGreatDoor
theorem stateWhole_card : Rows.StateWholeCardSaid := stateWhole.card
#print axioms stateWhole_card
end Go.Proofs.YtpgocpodhamibaaGreatDoor

/- The law StateNothing returns true for every text; its one condition is the card's own: Go's UTF-8 tables are laid as the program's text says. -/
import Derived.Test.YtpgocpodhamibaaGreatDoorCards
import Derived.Test.YtpgocpodhamibaaGreatDoorTie
import Derived.Test.YtpgocpodhamibaaGreatDoorK12
import Derived.SevenTiedAt
namespace Go.Proofs.YtpgocpodhamibaaGreatDoor.stateNothing
open Go
theorem c1 : Rows.stateNothingRow.wfByText (OpenSpec.ofChange Rows.stateNothingSpec) = true := by kernel_rfl
theorem c2 : Tryz.pinned.checked.prog.mainIs = some (true, ("81e48e3176a2dbf9b60eb8153578aaa5fcd2a84a553f7400726290e84caa002f" : String).toList) := by kernel_rfl
theorem c3 : true = Tryz.pinned.checked.prog.looks [] := by kernel_rfl
theorem c4 : Tryz.pinned.checked.prog.wantsStandIn 9 = false := by kernel_rfl
theorem c5 : false = Rows.stateNothingRow.goesBy Tryz.pinned.checked.prog := by kernel_rfl
theorem c6 (f : FuncId) (fn : Func) (hf : Tryz.pinned.checked.prog.funcNamed Rows.stateNothingRow.func = some f) (hfn : Tryz.pinned.checked.prog.funcs[f]? = some fn) : true = Tryz.pinned.checked.prog.looks [] ∧ ∀ (j : Nat) t, fn.params[j]? = some t → Tryz.pinned.checked.prog.wantsStandIn t = false := by
  have h1 : 7 = f := Option.some.inj (z1.symm.trans hf)
  subst h1
  have h2 : Tryz.f7 = fn := Option.some.inj ((Tryz.func7).symm.trans hfn)
  subst h2
  refine ⟨c3, fun j t ht => ?_⟩
  rw [Tryz.params7] at ht
  have hm : t ∈ [9] := by simpa using Array.mem_of_getElem? ht
  rcases List.mem_singleton.1 hm with rfl
  exact c4
theorem card : Rows.StateNothingCardSaid :=
  Claim7.holds_tied_plain_at .later [] [.data, .pinned] true (true, "81e48e3176a2dbf9b60eb8153578aaa5fcd2a84a553f7400726290e84caa002f") true
    over (fun _ h => by cases h) c1 (fun _ h => by cases h) stateNothing_row_tie rfl ⟨rfl, rfl⟩ c2 rfl c6 c5
end Go.Proofs.YtpgocpodhamibaaGreatDoor.stateNothing
namespace Go.Proofs.YtpgocpodhamibaaGreatDoor
theorem stateNothing_card : Rows.StateNothingCardSaid := stateNothing.card
#print axioms stateNothing_card
end Go.Proofs.YtpgocpodhamibaaGreatDoor

/- The law StateLearns returns true for every input; its one condition is the card's own: Go's UTF-8 tables are laid as the program's text says. -/
import Derived.Test.YtpgocpodhamibaaGreatDoorCards
import Derived.Test.YtpgocpodhamibaaGreatDoorTie
import Derived.Test.YtpgocpodhamibaaGreatDoorNY
import Derived.SevenTiedAt
namespace Go.Proofs.YtpgocpodhamibaaGreatDoor.stateLearns
open Go
theorem c1 : Rows.stateLearnsRow.wfByText (OpenSpec.ofChange Rows.stateLearnsSpec) = true := by kernel_rfl
theorem c2 : Tryz.pinned.checked.prog.mainIs = some (true, ("81e48e3176a2dbf9b60eb8153578aaa5fcd2a84a553f7400726290e84caa002f" : String).toList) := by kernel_rfl
theorem c3 : true = Tryz.pinned.checked.prog.looks [] := by kernel_rfl
theorem c4_0 : Tryz.pinned.checked.prog.wantsStandIn 3 = false := by kernel_rfl
theorem c4_1 : Tryz.pinned.checked.prog.wantsStandIn 48 = false := by kernel_rfl
theorem c4_2 : Tryz.pinned.checked.prog.wantsStandIn 51 = false := by kernel_rfl
theorem c5 : false = Rows.stateLearnsRow.goesBy Tryz.pinned.checked.prog := by kernel_rfl
theorem c6 (f : FuncId) (fn : Func) (hf : Tryz.pinned.checked.prog.funcNamed Rows.stateLearnsRow.func = some f) (hfn : Tryz.pinned.checked.prog.funcs[f]? = some fn) : true = Tryz.pinned.checked.prog.looks [] ∧ ∀ (j : Nat) t, fn.params[j]? = some t → Tryz.pinned.checked.prog.wantsStandIn t = false := by
  have h1 : 8 = f := Option.some.inj (z1.symm.trans hf)
  subst h1
  have h2 : Tryz.f8 = fn := Option.some.inj (Tryz.func8.symm.trans hfn)
  subst h2
  refine ⟨c3, fun j t ht => ?_⟩
  rw [Tryz.params8] at ht
  have hm : t ∈ [3, 48, 51] := by
    have h := Array.mem_of_getElem? ht
    have key : ∀ x ∈ (#[3, 3, 48, 51, 3] : Array Nat).toList, x ∈ [3, 48, 51] := by decide
    exact key t (Array.mem_toList_iff.mpr h)
  simp only [List.mem_cons, List.not_mem_nil, or_false] at hm
  rcases hm with rfl | rfl | rfl
  · exact c4_0
  · exact c4_1
  · exact c4_2
theorem card : Rows.StateLearnsCardSaid :=
  Claim7.holds_tied_plain_at .later [] [.data, .pinned] true (true, "81e48e3176a2dbf9b60eb8153578aaa5fcd2a84a553f7400726290e84caa002f") true
    over (fun _ h => by cases h) c1 (fun _ h => by cases h) stateLearns_row_tie rfl ⟨rfl, rfl⟩ c2 rfl c6 c5
end Go.Proofs.YtpgocpodhamibaaGreatDoor.stateLearns
namespace Go.Proofs.YtpgocpodhamibaaGreatDoor
theorem stateLearns_card : Rows.StateLearnsCardSaid := stateLearns.card
#print axioms stateLearns_card
end Go.Proofs.YtpgocpodhamibaaGreatDoor

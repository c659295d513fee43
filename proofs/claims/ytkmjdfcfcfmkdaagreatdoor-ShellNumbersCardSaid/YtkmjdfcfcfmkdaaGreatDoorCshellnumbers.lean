/- The law ShellNumbers returns true for every input; its one condition is the card's own: Go's UTF-8 tables are laid as the program's text says. -/
import Derived.Test.YtkmjdfcfcfmkdaaGreatDoorCards
import Derived.Test.YtkmjdfcfcfmkdaaGreatDoorTshellnumbers
import Derived.Test.YtkmjdfcfcfmkdaaGreatDoorPshellnumbers
import Derived.SevenTiedAt
namespace Go.Proofs.YtkmjdfcfcfmkdaaGreatDoor.shellNumbers
open Go
theorem c1 : Rows.shellNumbersRow.wfByText (OpenSpec.ofChange Rows.shellNumbersSpec) = true := by kernel_rfl
theorem c2 : Tryz.pinned.checked.prog.mainIs = some (true, ("9b296c8c8cc6b3b3355f1f6bbf2a9e8b17234c2bd0c9a0a2013ffffc8d59d9bd" : String).toList) := by kernel_rfl
theorem c3 : true = Tryz.pinned.checked.prog.looks [] := by kernel_rfl
theorem c4_0 : Tryz.pinned.checked.prog.wantsStandIn 3 = false := by kernel_rfl
theorem c6 (f : FuncId) (fn : Func) (hf : Tryz.pinned.checked.prog.funcNamed Rows.shellNumbersRow.func = some f) (hfn : Tryz.pinned.checked.prog.funcs[f]? = some fn) : true = Tryz.pinned.checked.prog.looks [] ∧ ∀ (j : Nat) t, fn.params[j]? = some t → Tryz.pinned.checked.prog.wantsStandIn t = false := by
  have h1 : 3 = f := Option.some.inj (z1.symm.trans hf)
  subst h1
  have h2 : Tryz.f3 = fn := Option.some.inj ((Tryz.func3).symm.trans hfn)
  subst h2
  refine ⟨c3, fun j t ht => ?_⟩
  rw [Tryz.params3] at ht
  have hm : t ∈ [3] := by
    have h := Array.mem_of_getElem? ht
    have key : ∀ x ∈ (#[3, 3] : Array Nat).toList, x ∈ [3] := by decide
    exact key t (Array.mem_toList_iff.mpr h)
  simp only [List.mem_cons, List.not_mem_nil, or_false] at hm
  rcases hm with rfl
  · exact c4_0
theorem card : Rows.ShellNumbersCardSaid :=
  Claim7.holds_tied_plain_at .later [] [.pinned, .data, .sentinel, .sentinel, .data, .data, .data] true (true, "9b296c8c8cc6b3b3355f1f6bbf2a9e8b17234c2bd0c9a0a2013ffffc8d59d9bd") true
    over (fun _ h => by cases h) c1 (fun _ h => by cases h) shellNumbersTied.row_tie rfl ⟨rfl, rfl⟩ c2 rfl c6 c5
end Go.Proofs.YtkmjdfcfcfmkdaaGreatDoor.shellNumbers
namespace Go.Proofs.YtkmjdfcfcfmkdaaGreatDoor
theorem shellNumbers_card : Rows.ShellNumbersCardSaid := shellNumbers.card
#print axioms shellNumbers_card
end Go.Proofs.YtkmjdfcfcfmkdaaGreatDoor

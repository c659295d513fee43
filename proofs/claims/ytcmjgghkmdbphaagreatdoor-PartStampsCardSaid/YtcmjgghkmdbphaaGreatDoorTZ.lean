/- The law PartStamps returns true for every input; its one condition is the card's own: Go's UTF-8 tables are laid as the program's text says. -/
import Derived.Test.YtcmjgghkmdbphaaGreatDoorCards
import Derived.Test.YtcmjgghkmdbphaaGreatDoorTie
import Derived.Test.YtcmjgghkmdbphaaGreatDoorTY
import Derived.SevenTiedAt
namespace Go.Proofs.YtcmjgghkmdbphaaGreatDoor.partStamps
open Go
theorem c1 : Rows.partStampsRow.wfByText (OpenSpec.ofChange Rows.partStampsSpec) = true := by kernel_rfl
theorem c2 : Tryz.pinned.checked.prog.mainIs = some (true, ("150ffe4eb0b13d68743cdb764ff8e792438679e6b6dbb8d8b9a218bf519dba42" : String).toList) := by kernel_rfl
theorem c3 : true = Tryz.pinned.checked.prog.looks [] := by kernel_rfl
theorem c4_0 : Tryz.pinned.checked.prog.wantsStandIn 120 = false := by kernel_rfl
theorem c5 : false = Rows.partStampsRow.goesBy Tryz.pinned.checked.prog := by kernel_rfl
theorem c6 (f : FuncId) (fn : Func) (hf : Tryz.pinned.checked.prog.funcNamed Rows.partStampsRow.func = some f) (hfn : Tryz.pinned.checked.prog.funcs[f]? = some fn) : true = Tryz.pinned.checked.prog.looks [] ∧ ∀ (j : Nat) t, fn.params[j]? = some t → Tryz.pinned.checked.prog.wantsStandIn t = false := by
  have h1 : 10 = f := Option.some.inj (z1.symm.trans hf)
  subst h1
  have h2 : Tryz.f10 = fn := Option.some.inj ((Tryz.func10).symm.trans hfn)
  subst h2
  refine ⟨c3, fun j t ht => ?_⟩
  rw [Tryz.params10] at ht
  have hm : t ∈ [120] := by
    have h := Array.mem_of_getElem? ht
    have key : ∀ x ∈ (#[120] : Array Nat).toList, x ∈ [120] := by decide
    exact key t (Array.mem_toList_iff.mpr h)
  simp only [List.mem_cons, List.not_mem_nil, or_false] at hm
  rcases hm with rfl
  · exact c4_0
theorem card : Rows.PartStampsCardSaid :=
  Claim7.holds_tied_plain_at .later [] [.data, .pinned] true (true, "150ffe4eb0b13d68743cdb764ff8e792438679e6b6dbb8d8b9a218bf519dba42") true
    over (fun _ h => by cases h) c1 (fun _ h => by cases h) partStamps_row_tie rfl ⟨rfl, rfl⟩ c2 rfl c6 c5
end Go.Proofs.YtcmjgghkmdbphaaGreatDoor.partStamps
namespace Go.Proofs.YtcmjgghkmdbphaaGreatDoor
theorem partStamps_card : Rows.PartStampsCardSaid := partStamps.card
#print axioms partStamps_card
end Go.Proofs.YtcmjgghkmdbphaaGreatDoor

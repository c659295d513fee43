/- The law HandBack returns true for every input; its one condition is the card's own: Go's UTF-8 tables are laid as the program's text says. -/
import Derived.Test.YtcmjgghkmdbphaaGreatDoorCards
import Derived.Test.YtcmjgghkmdbphaaGreatDoorTie
import Derived.Test.YtcmjgghkmdbphaaGreatDoorBY
import Derived.SevenTiedAt
namespace Go.Proofs.YtcmjgghkmdbphaaGreatDoor.handBack
open Go
theorem c1 : Rows.handBackRow.wfByText (OpenSpec.ofChange Rows.handBackSpec) = true := by kernel_rfl
theorem c2 : Tryz.pinned.checked.prog.mainIs = some (true, ("150ffe4eb0b13d68743cdb764ff8e792438679e6b6dbb8d8b9a218bf519dba42" : String).toList) := by kernel_rfl
theorem c3 : true = Tryz.pinned.checked.prog.looks [] := by kernel_rfl
theorem c4_0 : Tryz.pinned.checked.prog.wantsStandIn 3 = false := by kernel_rfl
theorem c5 : false = Rows.handBackRow.goesBy Tryz.pinned.checked.prog := by kernel_rfl
theorem c6 (f : FuncId) (fn : Func) (hf : Tryz.pinned.checked.prog.funcNamed Rows.handBackRow.func = some f) (hfn : Tryz.pinned.checked.prog.funcs[f]? = some fn) : true = Tryz.pinned.checked.prog.looks [] ∧ ∀ (j : Nat) t, fn.params[j]? = some t → Tryz.pinned.checked.prog.wantsStandIn t = false := by
  have h1 : 13 = f := Option.some.inj (z1.symm.trans hf)
  subst h1
  have h2 : Tryz.f13 = fn := Option.some.inj ((Tryz.func13).symm.trans hfn)
  subst h2
  refine ⟨c3, fun j t ht => ?_⟩
  rw [Tryz.params13] at ht
  have hm : t ∈ [3] := by
    have h := Array.mem_of_getElem? ht
    have key : ∀ x ∈ (#[3, 3] : Array Nat).toList, x ∈ [3] := by decide
    exact key t (Array.mem_toList_iff.mpr h)
  simp only [List.mem_cons, List.not_mem_nil, or_false] at hm
  rcases hm with rfl
  · exact c4_0
theorem card : Rows.HandBackCardSaid :=
  Claim7.holds_tied_plain_at .later [] [.data, .pinned] true (true, "150ffe4eb0b13d68743cdb764ff8e792438679e6b6dbb8d8b9a218bf519dba42") true
    over (fun _ h => by cases h) c1 (fun _ h => by cases h) handBack_row_tie rfl ⟨rfl, rfl⟩ c2 rfl c6 c5
end Go.Proofs.YtcmjgghkmdbphaaGreatDoor.handBack
namespace Go.Proofs.YtcmjgghkmdbphaaGreatDoor
theorem handBack_card : Rows.HandBackCardSaid := handBack.card
#print axioms handBack_card
end Go.Proofs.YtcmjgghkmdbphaaGreatDoor

/- Letters, short texts and check sums are known calls. -/
import Derived.Test.YteooccaicheleaaGreatDoorLet
import Derived.Test.YteooccaicheleaaGreatDoorVal
import Derived.Test.YteooccaicheleaaGreatDoorSum
namespace Go.Proofs.YteooccaicheleaaGreatDoor.X
open Go.RowKit
theorem letC : LetC Tryz.prog 9 := fun n k w hn hk => letters_ex n k w hn hk
theorem valC : ValC Tryz.prog 443 := fun s w hs ha => (valid_small s w hs ha).mono fun _ _ h => ⟨h.1, h.2 ▸ .refl _ _⟩
theorem sumC : SumC Tryz.prog 437 := fun bk o n c w hn h => (sum_any bk o n c w hn h).mono fun _ _ h => ⟨h.1, h.2 ▸ .refl _ _⟩
noncomputable abbrev kLet (fs : List FuncId) : FuncId → List Value → St → Option (Value × St) := orK (KA fs 1 2) (KN 21 9 443 437)
theorem known_kLet {V : Nat} (hV : -9223372036854775808 ≤ symI V ∧ symI V ≤ 9223372036854775807) {f : FuncId} (h : ∀ w, Lib.Utf8Tabs 1 2 w → CallsU Tryz.prog f #[] w (.bool true)) : Known Tryz.prog 21 V (kLet [f]) :=
  known_or (known_KA (by decide) (by decide) fun g hg => by rw [List.mem_singleton.1 hg]; exact h) (known_KN hV letC valC sumC)
end Go.Proofs.YteooccaicheleaaGreatDoor.X

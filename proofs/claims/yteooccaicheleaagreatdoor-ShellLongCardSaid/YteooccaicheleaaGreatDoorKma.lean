/- Law 30's awake, run by the kernel. -/
import Derived.Test.YteooccaicheleaaGreatDoorKmj
namespace Go.Proofs.YteooccaicheleaaGreatDoor.X
open Go.RowKit
theorem awake30_run : okTrue ((goF Tryz.prog 20 (KJ 99) 10000000).call 19 [] (start0 20 1 2)) = true := by kernel_rfl
theorem awake30 : ∀ w, Lib.Utf8Tabs 1 2 w → CallsU Tryz.prog 19 #[] w (.bool true) :=
  true_of_runF (V := 0) (args := []) (args' := []) (n := 10000000) (K := KJ 99) follows (known_KJ joinC) (by decide) (by decide) (by decide) awake30_run .nil
end Go.Proofs.YteooccaicheleaaGreatDoor.X

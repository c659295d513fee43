/- The law's awake, run by the kernel. -/
import Derived.Test.YtkcgggobcnlnpaaGreatDoorKmt
namespace Go.Proofs.YtkcgggobcnlnpaaGreatDoor.X
open Go.RowKit S
theorem awake24o_run : okTrue ((goF Tryz.prog 20 (KA [] 0 1) 10000000).call 15 [] (start0 20 0 1)) = true := by kernel_rfl
theorem awake24o : ∀ w, Lib.Utf8Tabs 0 1 w → CallsU Tryz.prog 15 #[] w (.bool true) :=
  true_of_runF (V := 0) (args := []) (args' := []) (n := 10000000) (K := KA [] 0 1) follows (known_KA (fs := []) (by decide) (by decide) fun _ h => by cases h) (by decide) (by decide) (by decide) awake24o_run .nil
end Go.Proofs.YtkcgggobcnlnpaaGreatDoor.X

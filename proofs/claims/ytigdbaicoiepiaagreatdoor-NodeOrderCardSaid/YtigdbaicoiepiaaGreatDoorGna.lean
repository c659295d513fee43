/- The law's awake, run by the kernel. -/
import Derived.Test.YtigdbaicoiepiaaGreatDoorKmt
namespace Go.Proofs.YtigdbaicoiepiaaGreatDoor.X
open Go.RowKit S
theorem awake24n_run : okTrue ((goF Tryz.prog 21 (KA [] 2 3) 10000000).call 32 [] (start0 21 2 3)) = true := by kernel_rfl
theorem awake24n : ∀ w, Lib.Utf8Tabs 2 3 w → CallsU Tryz.prog 32 #[] w (.bool true) :=
  true_of_runF (V := 0) (args := []) (args' := []) (n := 10000000) (K := KA [] 2 3) follows (known_KA (fs := []) (by decide) (by decide) fun _ h => by cases h) (by decide) (by decide) (by decide) awake24n_run .nil
end Go.Proofs.YtigdbaicoiepiaaGreatDoor.X

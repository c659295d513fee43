/- The law's awake, run by the kernel. -/
import Derived.Test.YtkmjdfcfcfmkdaaGreatDoorKmj
namespace Go.Proofs.YtkmjdfcfcfmkdaaGreatDoor.X
open Go.RowKit S
theorem awake30u_run : okTrue ((goF Tryz.prog 21 (orK (KA [] 1 2) (KJ 20)) 10000000).call 5 [] (start0 21 1 2)) = true := by kernel_rfl
theorem awake30u : ∀ w, Lib.Utf8Tabs 1 2 w → CallsU Tryz.prog 5 #[] w (.bool true) :=
  true_of_runF (V := 0) (args := []) (args' := []) (n := 10000000) (K := orK (KA [] 1 2) (KJ 20)) follows (known_or (known_KA (fs := []) (by decide) (by decide) fun _ h => by cases h) (known_KJ joinC)) (by decide) (by decide) (by decide) awake30u_run .nil
end Go.Proofs.YtkmjdfcfcfmkdaaGreatDoor.X

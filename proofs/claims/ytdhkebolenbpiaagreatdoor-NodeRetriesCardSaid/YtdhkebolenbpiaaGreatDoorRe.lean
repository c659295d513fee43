/- The law's awake, run by the kernel. -/
import Derived.Test.YtdhkebolenbpiaaGreatDoorKmt
namespace Go.Proofs.YtdhkebolenbpiaaGreatDoor.X
open Go.RowKit S
theorem awake24r_run : okTrue ((goF Tryz.prog 20 (KA [] 2 3) 10000000).call 4 [] (start0 20 2 3)) = true := by kernel_rfl
theorem awake24r : ∀ w, Lib.Utf8Tabs 2 3 w → CallsU Tryz.prog 4 #[] w (.bool true) :=
  true_of_runF (V := 0) (args := []) (args' := []) (n := 10000000) (K := KA [] 2 3) follows (known_KA (fs := []) (by decide) (by decide) fun _ h => by cases h) (by decide) (by decide) (by decide) awake24r_run .nil
end Go.Proofs.YtdhkebolenbpiaaGreatDoor.X

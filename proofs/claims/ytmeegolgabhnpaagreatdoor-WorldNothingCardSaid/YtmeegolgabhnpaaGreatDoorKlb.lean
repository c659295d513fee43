/- The law of the world: its awake, run by the kernel. -/
import Derived.Test.YtmeegolgabhnpaaGreatDoorKlt
import Derived.Test.YtmeegolgabhnpaaGreatDoorProg
import Derived.WalkKit
import Derived.ProofKit
namespace Go.Proofs.YtmeegolgabhnpaaGreatDoor.X
open Go.RowKit
theorem follows26 : Tryz.prog.follows .mixedOrders = true := by kernel_rfl
theorem awake26_run : okTrue ((goK Tryz.prog 20 (KA [] 3 4) 1000000).call 21 [] (start0 20 3 4)) = true := by kernel_rfl
theorem awake26 : ∀ w, Lib.Utf8Tabs 3 4 w → CallsU Tryz.prog 21 #[] w (.bool true) :=
  true_of_run (fs := []) follows26 (by decide) (by decide) (by decide) (fun _ h => by cases h) awake26_run rfl
end Go.Proofs.YtmeegolgabhnpaaGreatDoor.X

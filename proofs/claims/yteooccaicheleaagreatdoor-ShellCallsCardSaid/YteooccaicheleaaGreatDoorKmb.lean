/- ShellCalls: every call returns true. -/
import Derived.Test.YteooccaicheleaaGreatDoorKma
namespace Go.Proofs.YteooccaicheleaaGreatDoor.X
open Go.RowKit
noncomputable abbrev runC (args : List Value) : Bool := okTrue ((goF Tryz.prog 20 (orK (KA [19] 1 2) (KJ 99)) 10000000).call 6 args (start0 20 1 2))
theorem scn (n : Nat) : runC [.int .i64 (Int.negSucc n)] = true := by kernel_rfl
theorem scp (n : Nat) : runC [.int .i64 (Int.ofNat (n + 7))] = true := by kernel_rfl
theorem sc0 : runC [.int .i64 0] = true := by kernel_rfl
theorem sc1 : runC [.int .i64 1] = true := by kernel_rfl
theorem sc2 : runC [.int .i64 2] = true := by kernel_rfl
theorem sc3 : runC [.int .i64 3] = true := by kernel_rfl
theorem sc4 : runC [.int .i64 4] = true := by kernel_rfl
theorem sc5 : runC [.int .i64 5] = true := by kernel_rfl
theorem sc6 : runC [.int .i64 6] = true := by kernel_rfl
theorem sc_all : ∀ m : Int, runC [.int .i64 m] = true
    | .negSucc n => scn n
    | .ofNat 0 => sc0
    | .ofNat 1 => sc1
    | .ofNat 2 => sc2
    | .ofNat 3 => sc3
    | .ofNat 4 => sc4
    | .ofNat 5 => sc5
    | .ofNat 6 => sc6
    | .ofNat (n + 7) => scp n
theorem shellCalls_any (m : Int) (w : World) (hT : Lib.Utf8Tabs 1 2 w) : Calls Tryz.prog 6 #[.int .i64 m] w fun e w' => e = .returned (.bool true) ∧ Below w.heap.size w w' :=
  true_of_runF (V := 0) (n := 10000000) (K := orK (KA [19] 1 2) (KJ 99)) (args := [.int .i64 m]) (args' := [.int .i64 m]) follows (known_or (known_KA (by decide) (by decide) fun g hg => by rw [List.mem_singleton.1 hg]; exact awake30) (known_KJ joinC)) (by decide) (by decide) (by decide) (sc_all m) (.cons _ _ _ _ (.int _ _) .nil) w hT
end Go.Proofs.YteooccaicheleaaGreatDoor.X

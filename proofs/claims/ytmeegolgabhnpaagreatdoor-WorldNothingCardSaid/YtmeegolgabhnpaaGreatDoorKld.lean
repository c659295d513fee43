/- WorldNothing: every call returns true. -/
import Derived.Test.YtmeegolgabhnpaaGreatDoorKlb
namespace Go.Proofs.YtmeegolgabhnpaaGreatDoor.X
open Go.RowKit
noncomputable abbrev runW (args : List Value) : Bool := okTrue ((goK Tryz.prog 20 (KA [21] 3 4) 1000000).call 4 args (start0 20 3 4))
theorem wnpp (m n : Nat) : runW [.int .i64 (Int.ofNat m), .int .i64 (Int.ofNat n)] = true := by kernel_rfl
theorem wnnp (m n : Nat) : runW [.int .i64 (Int.negSucc m), .int .i64 (Int.ofNat n)] = true := by kernel_rfl
theorem wnpn (m n : Nat) : runW [.int .i64 (Int.ofNat m), .int .i64 (Int.negSucc n)] = true := by kernel_rfl
theorem wnnn (m n : Nat) : runW [.int .i64 (Int.negSucc m), .int .i64 (Int.negSucc n)] = true := by kernel_rfl
theorem wn_all : ∀ m n : Int, runW [.int .i64 m, .int .i64 n] = true
    | .ofNat m, .ofNat n => wnpp m n
    | .negSucc m, .ofNat n => wnnp m n
    | .ofNat m, .negSucc n => wnpn m n
    | .negSucc m, .negSucc n => wnnn m n
theorem worldNothing_any (m n : Int) (w : World) (hT : Lib.Utf8Tabs 3 4 w) : Calls Tryz.prog 4 #[.int .i64 m, .int .i64 n] w fun e w' => e = .returned (.bool true) ∧ Below w.heap.size w w' :=
  (true_of_run (fs := [21]) (args := [.int .i64 m, .int .i64 n]) follows26 (by decide) (by decide) (by decide) (fun g hg => by rw [List.mem_singleton.1 hg]; exact awake26) (wn_all m n) rfl w hT).calls
end Go.Proofs.YtmeegolgabhnpaaGreatDoor.X

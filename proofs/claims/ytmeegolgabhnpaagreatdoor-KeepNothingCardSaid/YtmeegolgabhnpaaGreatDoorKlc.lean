/- KeepNothing: every call returns true. -/
import Derived.Test.YtmeegolgabhnpaaGreatDoorKla
namespace Go.Proofs.YtmeegolgabhnpaaGreatDoor.X
open Go.RowKit
noncomputable abbrev runK (args : List Value) : Bool := okTrue ((goK Tryz.prog 20 (KA [12] 3 4) 1000000).call 3 args (start0 20 3 4))
theorem knn (m : Int) (n : Nat) : runK [.int .i64 m, .int .i64 (Int.negSucc n)] = true := by kernel_rfl
theorem kn0 (m : Int) : runK [.int .i64 m, .int .i64 0] = true := by kernel_rfl
theorem kn9 (m : Int) (n : Nat) : runK [.int .i64 m, .int .i64 (Int.ofNat (n + 9))] = true := by kernel_rfl
theorem kn1n (n : Nat) : runK [.int .i64 (Int.negSucc n), .int .i64 1] = true := by kernel_rfl
theorem kn1p (n : Nat) : runK [.int .i64 (Int.ofNat (n + 2)), .int .i64 1] = true := by kernel_rfl
theorem kn1_0 : runK [.int .i64 0, .int .i64 1] = true := by kernel_rfl
theorem kn1_1 : runK [.int .i64 1, .int .i64 1] = true := by kernel_rfl
theorem kn2n (n : Nat) : runK [.int .i64 (Int.negSucc n), .int .i64 2] = true := by kernel_rfl
theorem kn2p (n : Nat) : runK [.int .i64 (Int.ofNat (n + 3)), .int .i64 2] = true := by kernel_rfl
theorem kn2_0 : runK [.int .i64 0, .int .i64 2] = true := by kernel_rfl
theorem kn2_1 : runK [.int .i64 1, .int .i64 2] = true := by kernel_rfl
theorem kn2_2 : runK [.int .i64 2, .int .i64 2] = true := by kernel_rfl
theorem kn3n (n : Nat) : runK [.int .i64 (Int.negSucc n), .int .i64 3] = true := by kernel_rfl
theorem kn3p (n : Nat) : runK [.int .i64 (Int.ofNat (n + 4)), .int .i64 3] = true := by kernel_rfl
theorem kn3_0 : runK [.int .i64 0, .int .i64 3] = true := by kernel_rfl
theorem kn3_1 : runK [.int .i64 1, .int .i64 3] = true := by kernel_rfl
theorem kn3_2 : runK [.int .i64 2, .int .i64 3] = true := by kernel_rfl
theorem kn3_3 : runK [.int .i64 3, .int .i64 3] = true := by kernel_rfl
theorem kn4n (n : Nat) : runK [.int .i64 (Int.negSucc n), .int .i64 4] = true := by kernel_rfl
theorem kn4p (n : Nat) : runK [.int .i64 (Int.ofNat (n + 5)), .int .i64 4] = true := by kernel_rfl
theorem kn4_0 : runK [.int .i64 0, .int .i64 4] = true := by kernel_rfl
theorem kn4_1 : runK [.int .i64 1, .int .i64 4] = true := by kernel_rfl
theorem kn4_2 : runK [.int .i64 2, .int .i64 4] = true := by kernel_rfl
theorem kn4_3 : runK [.int .i64 3, .int .i64 4] = true := by kernel_rfl
theorem kn4_4 : runK [.int .i64 4, .int .i64 4] = true := by kernel_rfl
theorem kn5n (n : Nat) : runK [.int .i64 (Int.negSucc n), .int .i64 5] = true := by kernel_rfl
theorem kn5p (n : Nat) : runK [.int .i64 (Int.ofNat (n + 6)), .int .i64 5] = true := by kernel_rfl
theorem kn5_0 : runK [.int .i64 0, .int .i64 5] = true := by kernel_rfl
theorem kn5_1 : runK [.int .i64 1, .int .i64 5] = true := by kernel_rfl
theorem kn5_2 : runK [.int .i64 2, .int .i64 5] = true := by kernel_rfl
theorem kn5_3 : runK [.int .i64 3, .int .i64 5] = true := by kernel_rfl
theorem kn5_4 : runK [.int .i64 4, .int .i64 5] = true := by kernel_rfl
theorem kn5_5 : runK [.int .i64 5, .int .i64 5] = true := by kernel_rfl
theorem kn6n (n : Nat) : runK [.int .i64 (Int.negSucc n), .int .i64 6] = true := by kernel_rfl
theorem kn6p (n : Nat) : runK [.int .i64 (Int.ofNat (n + 7)), .int .i64 6] = true := by kernel_rfl
theorem kn6_0 : runK [.int .i64 0, .int .i64 6] = true := by kernel_rfl
theorem kn6_1 : runK [.int .i64 1, .int .i64 6] = true := by kernel_rfl
theorem kn6_2 : runK [.int .i64 2, .int .i64 6] = true := by kernel_rfl
theorem kn6_3 : runK [.int .i64 3, .int .i64 6] = true := by kernel_rfl
theorem kn6_4 : runK [.int .i64 4, .int .i64 6] = true := by kernel_rfl
theorem kn6_5 : runK [.int .i64 5, .int .i64 6] = true := by kernel_rfl
theorem kn6_6 : runK [.int .i64 6, .int .i64 6] = true := by kernel_rfl
theorem kn7n (n : Nat) : runK [.int .i64 (Int.negSucc n), .int .i64 7] = true := by kernel_rfl
theorem kn7p (n : Nat) : runK [.int .i64 (Int.ofNat (n + 8)), .int .i64 7] = true := by kernel_rfl
theorem kn7_0 : runK [.int .i64 0, .int .i64 7] = true := by kernel_rfl
theorem kn7_1 : runK [.int .i64 1, .int .i64 7] = true := by kernel_rfl
theorem kn7_2 : runK [.int .i64 2, .int .i64 7] = true := by kernel_rfl
theorem kn7_3 : runK [.int .i64 3, .int .i64 7] = true := by kernel_rfl
theorem kn7_4 : runK [.int .i64 4, .int .i64 7] = true := by kernel_rfl
theorem kn7_5 : runK [.int .i64 5, .int .i64 7] = true := by kernel_rfl
theorem kn7_6 : runK [.int .i64 6, .int .i64 7] = true := by kernel_rfl
theorem kn7_7 : runK [.int .i64 7, .int .i64 7] = true := by kernel_rfl
theorem kn8n (n : Nat) : runK [.int .i64 (Int.negSucc n), .int .i64 8] = true := by kernel_rfl
theorem kn8p (n : Nat) : runK [.int .i64 (Int.ofNat (n + 9)), .int .i64 8] = true := by kernel_rfl
theorem kn8_0 : runK [.int .i64 0, .int .i64 8] = true := by kernel_rfl
theorem kn8_1 : runK [.int .i64 1, .int .i64 8] = true := by kernel_rfl
theorem kn8_2 : runK [.int .i64 2, .int .i64 8] = true := by kernel_rfl
theorem kn8_3 : runK [.int .i64 3, .int .i64 8] = true := by kernel_rfl
theorem kn8_4 : runK [.int .i64 4, .int .i64 8] = true := by kernel_rfl
theorem kn8_5 : runK [.int .i64 5, .int .i64 8] = true := by kernel_rfl
theorem kn8_6 : runK [.int .i64 6, .int .i64 8] = true := by kernel_rfl
theorem kn8_7 : runK [.int .i64 7, .int .i64 8] = true := by kernel_rfl
theorem kn8_8 : runK [.int .i64 8, .int .i64 8] = true := by kernel_rfl
theorem kn_all : ∀ m n : Int, runK [.int .i64 m, .int .i64 n] = true
    | m, .negSucc n => knn m n
    | m, .ofNat 0 => kn0 m
    | .negSucc n, .ofNat 1 => kn1n n
    | .ofNat 0, .ofNat 1 => kn1_0
    | .ofNat 1, .ofNat 1 => kn1_1
    | .ofNat (n + 2), .ofNat 1 => kn1p n
    | .negSucc n, .ofNat 2 => kn2n n
    | .ofNat 0, .ofNat 2 => kn2_0
    | .ofNat 1, .ofNat 2 => kn2_1
    | .ofNat 2, .ofNat 2 => kn2_2
    | .ofNat (n + 3), .ofNat 2 => kn2p n
    | .negSucc n, .ofNat 3 => kn3n n
    | .ofNat 0, .ofNat 3 => kn3_0
    | .ofNat 1, .ofNat 3 => kn3_1
    | .ofNat 2, .ofNat 3 => kn3_2
    | .ofNat 3, .ofNat 3 => kn3_3
    | .ofNat (n + 4), .ofNat 3 => kn3p n
    | .negSucc n, .ofNat 4 => kn4n n
    | .ofNat 0, .ofNat 4 => kn4_0
    | .ofNat 1, .ofNat 4 => kn4_1
    | .ofNat 2, .ofNat 4 => kn4_2
    | .ofNat 3, .ofNat 4 => kn4_3
    | .ofNat 4, .ofNat 4 => kn4_4
    | .ofNat (n + 5), .ofNat 4 => kn4p n
    | .negSucc n, .ofNat 5 => kn5n n
    | .ofNat 0, .ofNat 5 => kn5_0
    | .ofNat 1, .ofNat 5 => kn5_1
    | .ofNat 2, .ofNat 5 => kn5_2
    | .ofNat 3, .ofNat 5 => kn5_3
    | .ofNat 4, .ofNat 5 => kn5_4
    | .ofNat 5, .ofNat 5 => kn5_5
    | .ofNat (n + 6), .ofNat 5 => kn5p n
    | .negSucc n, .ofNat 6 => kn6n n
    | .ofNat 0, .ofNat 6 => kn6_0
    | .ofNat 1, .ofNat 6 => kn6_1
    | .ofNat 2, .ofNat 6 => kn6_2
    | .ofNat 3, .ofNat 6 => kn6_3
    | .ofNat 4, .ofNat 6 => kn6_4
    | .ofNat 5, .ofNat 6 => kn6_5
    | .ofNat 6, .ofNat 6 => kn6_6
    | .ofNat (n + 7), .ofNat 6 => kn6p n
    | .negSucc n, .ofNat 7 => kn7n n
    | .ofNat 0, .ofNat 7 => kn7_0
    | .ofNat 1, .ofNat 7 => kn7_1
    | .ofNat 2, .ofNat 7 => kn7_2
    | .ofNat 3, .ofNat 7 => kn7_3
    | .ofNat 4, .ofNat 7 => kn7_4
    | .ofNat 5, .ofNat 7 => kn7_5
    | .ofNat 6, .ofNat 7 => kn7_6
    | .ofNat 7, .ofNat 7 => kn7_7
    | .ofNat (n + 8), .ofNat 7 => kn7p n
    | .negSucc n, .ofNat 8 => kn8n n
    | .ofNat 0, .ofNat 8 => kn8_0
    | .ofNat 1, .ofNat 8 => kn8_1
    | .ofNat 2, .ofNat 8 => kn8_2
    | .ofNat 3, .ofNat 8 => kn8_3
    | .ofNat 4, .ofNat 8 => kn8_4
    | .ofNat 5, .ofNat 8 => kn8_5
    | .ofNat 6, .ofNat 8 => kn8_6
    | .ofNat 7, .ofNat 8 => kn8_7
    | .ofNat 8, .ofNat 8 => kn8_8
    | .ofNat (n + 9), .ofNat 8 => kn8p n
    | m, .ofNat (n + 9) => kn9 m n
theorem keepNothing_any (m n : Int) (w : World) (hT : Lib.Utf8Tabs 3 4 w) : Calls Tryz.prog 3 #[.int .i64 m, .int .i64 n] w fun e w' => e = .returned (.bool true) ∧ Below w.heap.size w w' :=
  (true_of_run (fs := [12]) (args := [.int .i64 m, .int .i64 n]) follows (by decide) (by decide) (by decide) (fun g hg => by rw [List.mem_singleton.1 hg]; exact awake16) (kn_all m n) rfl w hT).calls
end Go.Proofs.YtmeegolgabhnpaaGreatDoor.X

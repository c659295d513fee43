/- NodeKeeps: every call returns true. -/
import Derived.Test.YteooccaicheleaaGreatDoorKkn
namespace Go.Proofs.YteooccaicheleaaGreatDoor.X
open Go.RowKit
theorem awake24_run : okTrue ((goF Tryz.prog 20 (KA [] 1 2) 10000000).call 7 [] (start0 20 1 2)) = true := by kernel_rfl
theorem awake24 : ∀ w, Lib.Utf8Tabs 1 2 w → CallsU Tryz.prog 7 #[] w (.bool true) :=
  true_of_runF (V := 0) (args := []) (args' := []) (n := 10000000) (K := KA [] 1 2) follows (known_KA (fs := []) (by decide) (by decide) fun _ h => by cases h) (by decide) (by decide) (by decide) awake24_run .nil
noncomputable abbrev runnk (args : List Value) : Bool := okTrue ((goF Tryz.prog 21 (kLet [7]) 10000000).call 3 args (start0 21 1 2))
theorem nkn (n : Nat) : runnk [.int .i64 (Int.negSucc n), .complex .f32 20 0] = true := by kernel_rfl
theorem nkp (n : Nat) : runnk [.int .i64 (Int.ofNat (n + 9)), .complex .f32 20 0] = true := by kernel_rfl
theorem nk0 : runnk [.int .i64 0, .complex .f32 20 0] = true := by kernel_rfl
theorem nk1 : runnk [.int .i64 1, .complex .f32 20 0] = true := by kernel_rfl
theorem nk2 : runnk [.int .i64 2, .complex .f32 20 0] = true := by kernel_rfl
theorem nk3 : runnk [.int .i64 3, .complex .f32 20 0] = true := by kernel_rfl
theorem nk4 : runnk [.int .i64 4, .complex .f32 20 0] = true := by kernel_rfl
theorem nk5 : runnk [.int .i64 5, .complex .f32 20 0] = true := by kernel_rfl
theorem nk6 : runnk [.int .i64 6, .complex .f32 20 0] = true := by kernel_rfl
theorem nk7 : runnk [.int .i64 7, .complex .f32 20 0] = true := by kernel_rfl
theorem nk8 : runnk [.int .i64 8, .complex .f32 20 0] = true := by kernel_rfl
theorem nk_all : ∀ n : Int, runnk [.int .i64 n, .complex .f32 20 0] = true
  | .negSucc n => nkn n
  | .ofNat 0 => nk0
  | .ofNat 1 => nk1
  | .ofNat 2 => nk2
  | .ofNat 3 => nk3
  | .ofNat 4 => nk4
  | .ofNat 5 => nk5
  | .ofNat 6 => nk6
  | .ofNat 7 => nk7
  | .ofNat 8 => nk8
  | .ofNat (n + 9) => nkp n
theorem nodeKeeps_any (n k : Int) (w : World) (hk : -9223372036854775808 ≤ k ∧ k ≤ 9223372036854775807) (hT : Lib.Utf8Tabs 1 2 w) : Calls Tryz.prog 3 #[.int .i64 n, .int .i64 k] w fun e w' => e = .returned (.bool true) ∧ Below w.heap.size w w' := by
  obtain ⟨V, rfl⟩ := symI_all k
  exact true_of_runF (V := V) (n := 10000000) (K := kLet [7]) (args := [.int .i64 n, .complex .f32 20 0]) (args' := [.int .i64 n, .int .i64 (symI V)]) follows (known_kLet hk awake24) (by decide) (by decide) (by decide) (nk_all n) (.cons _ _ _ _ (.int _ _) (.cons _ _ _ _ (sym_rel 0) .nil)) w hT
end Go.Proofs.YteooccaicheleaaGreatDoor.X

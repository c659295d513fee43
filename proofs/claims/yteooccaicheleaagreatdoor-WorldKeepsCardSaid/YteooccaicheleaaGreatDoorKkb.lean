/- WorldKeeps: every call returns true. -/
import Derived.Test.YteooccaicheleaaGreatDoorKkn
namespace Go.Proofs.YteooccaicheleaaGreatDoor.X
open Go.RowKit
theorem awake26_run : okTrue ((goF Tryz.prog 20 (KA [] 1 2) 10000000).call 11 [] (start0 20 1 2)) = true := by kernel_rfl
theorem awake26 : ∀ w, Lib.Utf8Tabs 1 2 w → CallsU Tryz.prog 11 #[] w (.bool true) :=
  true_of_runF (V := 0) (args := []) (args' := []) (n := 10000000) (K := KA [] 1 2) follows (known_KA (fs := []) (by decide) (by decide) fun _ h => by cases h) (by decide) (by decide) (by decide) awake26_run .nil
noncomputable abbrev runwk (args : List Value) : Bool := okTrue ((goF Tryz.prog 21 (kLet [11]) 10000000).call 4 args (start0 21 1 2))
theorem wkn (n : Nat) : runwk [.int .i64 (Int.negSucc n), .complex .f32 20 0] = true := by kernel_rfl
theorem wkp (n : Nat) : runwk [.int .i64 (Int.ofNat (n + 9)), .complex .f32 20 0] = true := by kernel_rfl
theorem wk0 : runwk [.int .i64 0, .complex .f32 20 0] = true := by kernel_rfl
theorem wk1 : runwk [.int .i64 1, .complex .f32 20 0] = true := by kernel_rfl
theorem wk2 : runwk [.int .i64 2, .complex .f32 20 0] = true := by kernel_rfl
theorem wk3 : runwk [.int .i64 3, .complex .f32 20 0] = true := by kernel_rfl
theorem wk4 : runwk [.int .i64 4, .complex .f32 20 0] = true := by kernel_rfl
theorem wk5 : runwk [.int .i64 5, .complex .f32 20 0] = true := by kernel_rfl
theorem wk6 : runwk [.int .i64 6, .complex .f32 20 0] = true := by kernel_rfl
theorem wk7 : runwk [.int .i64 7, .complex .f32 20 0] = true := by kernel_rfl
theorem wk8 : runwk [.int .i64 8, .complex .f32 20 0] = true := by kernel_rfl
theorem wk_all : ∀ n : Int, runwk [.int .i64 n, .complex .f32 20 0] = true
  | .negSucc n => wkn n
  | .ofNat 0 => wk0
  | .ofNat 1 => wk1
  | .ofNat 2 => wk2
  | .ofNat 3 => wk3
  | .ofNat 4 => wk4
  | .ofNat 5 => wk5
  | .ofNat 6 => wk6
  | .ofNat 7 => wk7
  | .ofNat 8 => wk8
  | .ofNat (n + 9) => wkp n
theorem worldKeeps_any (n k : Int) (w : World) (hk : -9223372036854775808 ≤ k ∧ k ≤ 9223372036854775807) (hT : Lib.Utf8Tabs 1 2 w) : Calls Tryz.prog 4 #[.int .i64 n, .int .i64 k] w fun e w' => e = .returned (.bool true) ∧ Below w.heap.size w w' := by
  obtain ⟨V, rfl⟩ := symI_all k
  exact true_of_runF (V := V) (n := 10000000) (K := kLet [11]) (args := [.int .i64 n, .complex .f32 20 0]) (args' := [.int .i64 n, .int .i64 (symI V)]) follows (known_kLet hk awake26) (by decide) (by decide) (by decide) (wk_all n) (.cons _ _ _ _ (.int _ _) (.cons _ _ _ _ (sym_rel 0) .nil)) w hT
end Go.Proofs.YteooccaicheleaaGreatDoor.X

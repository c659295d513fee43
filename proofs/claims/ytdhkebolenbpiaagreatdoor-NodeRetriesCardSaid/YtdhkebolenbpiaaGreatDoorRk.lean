/- A closed fact for many numbers. -/
import Derived.Test.YtdhkebolenbpiaaGreatDoorKmt
import Derived.Deep.OwnRows
import Derived.Lib.Hide
import Derived.WalkKit
import Derived.ProofKit
namespace Go.Proofs.YtdhkebolenbpiaaGreatDoor.X
open Go.RowKit
/-- All numbers from i on, n of them. -/
noncomputable def allFrom (p : Nat → Bool) (n : Nat) : Nat → Bool :=
  Nat.rec (motive := fun _ => Nat → Bool) (fun _ => true) (fun _ go i => iff' (forceN i p) (forceN (Nat.succ i) go) false) n
theorem allFrom_at {p : Nat → Bool} : ∀ {n i : Nat}, allFrom p n i = true → ∀ {j : Nat}, i ≤ j → j < i + n → p j = true
  | 0, _, _, _, h1, h2 => by omega
  | n + 1, i, h, j, h1, h2 => by
    have h' : iff' (forceN i p) (forceN (Nat.succ i) (allFrom p n)) false = true := h
    rw [iff_eq, forceN_eq, forceN_eq] at h'
    cases hp : p i with
    | false => rw [hp] at h'; cases h'
    | true =>
      rw [hp] at h'
      by_cases he : i = j
      · rw [← he]; exact hp
      · exact allFrom_at (n := n) (i := i + 1) h' (by omega) (by omega)
end Go.Proofs.YtdhkebolenbpiaaGreatDoor.X

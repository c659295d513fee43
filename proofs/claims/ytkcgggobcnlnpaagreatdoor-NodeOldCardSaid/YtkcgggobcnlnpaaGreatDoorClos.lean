/- What a function reaches, found with a set of bits. -/
import GoSem.ClaimFn
namespace Go.Proofs.YtkcgggobcnlnpaaGreatDoor
namespace Cl
def bit (p j : Nat) : Bool := Nat.beq (Nat.land 1 (Nat.shiftRight p j)) 1
theorem bit_eq (p j : Nat) : bit p j = p.testBit j := by
  show Nat.beq (1 &&& (p >>> j)) 1 = _
  unfold Nat.testBit
  rw [Nat.one_and_eq_mod_two]
  rcases Nat.mod_two_eq_zero_or_one (p >>> j) with h | h <;> rw [h] <;> rfl
noncomputable def force (n : Nat) : Nat := Nat.rec (motive := fun _ => Nat) 0 (fun m _ => Nat.succ m) n
theorem force_eq (n : Nat) : force n = n := by cases n <;> rfl
noncomputable def clos (P : Program) (n : Nat) : List FuncId → List FuncId → Nat → List FuncId :=
  Nat.rec (motive := fun _ => List FuncId → List FuncId → Nat → List FuncId) (fun _ seen _ => seen.reverse)
    (fun _ go todo seen m => List.rec (motive := fun _ => List FuncId) seen.reverse (fun f todo _ =>
      Bool.rec (motive := fun _ => List FuncId) (go ((P.funcs[f]?).elim [] P.leadsTo ++ todo) (f :: seen) (force (Nat.lor m (Nat.shiftLeft 1 f)))) (go todo seen m) (bit m f)) todo) n
theorem bit_or (m f x : Nat) : bit (Nat.lor m (Nat.shiftLeft 1 f)) x = (x == f || bit m x) := by
  rw [bit_eq, bit_eq]
  show (m ||| 1 <<< f).testBit x = _
  rw [Nat.testBit_or, Nat.one_shiftLeft, Nat.testBit_two_pow, Bool.or_comm]
  congr 1
  rw [Bool.eq_iff_iff]
  simp only [decide_eq_true_eq, beq_iff_eq]
  exact eq_comm
theorem clos_eq (P : Program) : ∀ (n : Nat) (todo seen : List FuncId) (m : Nat), (∀ x, bit m x = seen.contains x) → clos P n todo seen m = P.closureVia n todo seen
  | 0, _, _, _, _ => by unfold Program.closureVia; rfl
  | n + 1, [], _, _, _ => by unfold Program.closureVia; rfl
  | n + 1, f :: todo, seen, m, h => by
    have e : clos P (n + 1) (f :: todo) seen m = Bool.rec (motive := fun _ => List FuncId) (clos P n ((P.funcs[f]?).elim [] P.leadsTo ++ todo) (f :: seen) (force (Nat.lor m (Nat.shiftLeft 1 f)))) (clos P n todo seen m) (bit m f) := rfl
    rw [e, h f]
    unfold Program.closureVia
    cases hc : seen.contains f with
    | true => exact clos_eq P n todo seen m h
    | false =>
      show clos P n ((P.funcs[f]?).elim [] P.leadsTo ++ todo) (f :: seen) (force (Nat.lor m (Nat.shiftLeft 1 f))) = _
      rw [force_eq, clos_eq P n _ (f :: seen) _ (fun x => by rw [bit_or, h x, List.contains_cons])]
      rfl
theorem closure_eq (P : Program) (f : FuncId) : P.closure f = clos P (1 + (P.funcs.toList.map fun g => (P.leadsTo g).length + 1).sum) [f] [] 0 := by
  rw [clos_eq P _ [f] [] 0 (fun x => by rw [bit_eq]; simp)]
  rfl
end Cl
end Go.Proofs.YtkcgggobcnlnpaaGreatDoor

/- A runner for closed calls, part 10: Zq. -/
import Derived.Test.YtdhkebolenbpiaaGreatDoorKni
namespace Go.Proofs.YtdhkebolenbpiaaGreatDoor.X
open Go.RowKit
/-! ### The plan, found quicker -/
noncomputable def allF {α : Type} (p : α → Bool) (l : List α) : Bool := List.rec (motive := fun _ => Bool) true (fun x _ r => Bool.rec (motive := fun _ => Bool) false r (p x)) l
theorem allF_eq {α : Type} (p : α → Bool) : ∀ l : List α, allF p l = l.all p
  | [] => rfl
  | x :: l => by
    show Bool.rec (motive := fun _ => Bool) false (allF p l) (p x) = _
    rw [allF_eq p l, List.all_cons]; cases p x <;> rfl
noncomputable def anyF {α : Type} (p : α → Bool) (l : List α) : Bool := List.rec (motive := fun _ => Bool) false (fun x _ r => Bool.rec (motive := fun _ => Bool) r true (p x)) l
theorem anyF_eq {α : Type} (p : α → Bool) : ∀ l : List α, anyF p l = l.any p
  | [] => rfl
  | x :: l => by
    show Bool.rec (motive := fun _ => Bool) (anyF p l) true (p x) = _
    rw [anyF_eq p l, List.any_cons]; cases p x <;> rfl
noncomputable def notF (b : Bool) : Bool := Bool.rec (motive := fun _ => Bool) true false b
theorem notF_eq (b : Bool) : notF b = !b := by cases b <;> rfl
noncomputable def andF (a b : Bool) : Bool := Bool.rec (motive := fun _ => Bool) false b a
theorem andF_eq (a b : Bool) : andF a b = (a && b) := by cases a <;> rfl
noncomputable def orF (a b : Bool) : Bool := Bool.rec (motive := fun _ => Bool) b true a
theorem orF_eq (a b : Bool) : orF a b = (a || b) := by cases a <;> rfl
noncomputable def bitF (p j : Nat) : Bool := Nat.beq (Nat.land 1 (Nat.shiftRight p j)) 1
theorem bitF_eq (p j : Nat) : bitF p j = p.testBit j := by
  show Nat.beq (1 &&& (p >>> j)) 1 = _
  unfold Nat.testBit
  rw [Nat.one_and_eq_mod_two]
  rcases Nat.mod_two_eq_zero_or_one (p >>> j) with h | h <;> rw [h] <;> rfl
noncomputable def nthD (l : List Nat) (i : Nat) : Nat := Option.rec (motive := fun _ => Nat) 0 (fun x => x) (nth l i)
theorem nthD_eq (l : List Nat) (i : Nat) : nthD l i = l.getD i 0 := by
  unfold nthD
  rw [nth_eq, List.getD_eq_getElem?_getD]
  cases l[i]? <;> rfl
noncomputable def preF (pre : List Nat) (j i : Nat) : Bool := bitF (nthD pre i) j
theorem preF_eq (pre : List Nat) (j i : Nat) : preF pre j i = inPre pre j i := by unfold preF inPre; rw [bitF_eq, nthD_eq]
noncomputable def idxF {α : Type} (p : α → Nat → Bool) (l : List α) : Nat → Bool := List.rec (motive := fun _ => Nat → Bool) (fun _ => true) (fun x _ r i => Bool.rec (motive := fun _ => Bool) false (r (Nat.succ i)) (p x i)) l
theorem idxF_eq {α : Type} (p : α → Nat → Bool) : ∀ (l : List α) (i : Nat), idxF p l i = (l.zipIdx i).all (fun x => p x.1 x.2)
  | [], _ => rfl
  | x :: l, i => by
    show Bool.rec (motive := fun _ => Bool) false (idxF p l (i + 1)) (p x i) = _
    rw [idxF_eq p l, List.zipIdx_cons, List.all_cons]; cases p x i <;> rfl
noncomputable def ordF (pre : List Nat) (l : List Nat) : Bool := List.rec (motive := fun _ => Bool) true (fun y r go => Bool.rec (motive := fun _ => Bool) false go (allF (fun x => andF (notF (Nat.beq x y)) (notF (preF pre x y))) r)) l
theorem beq_nat (x y : Nat) : Nat.beq x y = (x == y) := by rw [Bool.eq_iff_iff]; simp
theorem bne_nat (x y : Nat) : (!(x == y)) = (x != y) := rfl
theorem ordF_eq (pre : List Nat) : ∀ l, ordF pre l = ordOk pre l
  | [] => rfl
  | y :: r => by
    show Bool.rec (motive := fun _ => Bool) false (ordF pre r) (allF (fun x => andF (notF (Nat.beq x y)) (notF (preF pre x y))) r) = (r.all (fun x => x != y && !inPre pre x y) && ordOk pre r)
    rw [ordF_eq pre r, allF_eq]
    simp only [andF_eq, notF_eq, preF_eq, beq_nat]
    have : (r.all fun x => !(x == y) && !inPre pre x y) = r.all (fun x => x != y && !inPre pre x y) := rfl
    rw [this]
    cases r.all (fun x => x != y && !inPre pre x y) <;> rfl
noncomputable def stF (P : Program) (ops : List Oper) (pre : List Nat) (l : List Stage) : Bool :=
  List.rec (motive := fun _ => Bool) true (fun g r go =>
    andF (allF (fun i => match nth ops i with | some o => notF (Nat.beq (opKind P o) 3) | none => false) g.qs)
      (andF (match g.l with | none => true | some j => allF (fun i => preF pre j i) (ordOf r)) go)) l
theorem stF_eq (P : Program) (ops : List Oper) (pre : List Nat) : ∀ l, stF P ops pre l = stOk P ops pre l
  | [] => rfl
  | g :: r => by
    show andF (allF (fun i => match nth ops i with | some o => notF (Nat.beq (opKind P o) 3) | none => false) g.qs)
      (andF (match g.l with | none => true | some j => allF (fun i => preF pre j i) (ordOf r)) (stF P ops pre r)) = _
    have e : stOk P ops pre (g :: r) = (g.qs.all (fun i => match ops[i]? with | some o => opKind P o != 3 | none => false) &&
      (match g.l with | none => true | some j => (ordOf r).all fun i => inPre pre j i) && stOk P ops pre r) := rfl
    rw [stF_eq P ops pre r, andF_eq, andF_eq, allF_eq, e, Bool.and_assoc]
    simp only [allF_eq, preF_eq, nth_eq, notF_eq, beq_nat, bne_nat]
noncomputable def apartF (lk : List Nat) (x y : Oper) : Bool :=
  Option.rec (motive := fun _ => Bool) true (fun d => andF (notF (anyF (fun t => Nat.beq d t) lk)) (Option.rec (motive := fun _ => Bool) true (fun d' => notF (Nat.beq d' d)) y.dst)) x.dst
theorem apartF_eq (ops : List Oper) (x y : Oper) : apartF (looks ops y) x y = apart ops x y := by
  unfold apartF apart
  cases x.dst with
  | none => rfl
  | some d =>
    show andF (notF (anyF (fun t => Nat.beq d t) (looks ops y))) (Option.rec (motive := fun _ => Bool) true (fun d' => notF (Nat.beq d' d)) y.dst) = (!(looks ops y).contains d && y.dst != some d)
    rw [andF_eq, notF_eq, anyF_eq]
    congr 1
    · rw [List.contains_eq_any_beq]; simp only [beq_nat]
    · cases y.dst with
      | none => rfl
      | some d' => show notF (Nat.beq d' d) = _; rw [notF_eq]; simp [bne, beq_nat]
noncomputable def plF (P : Program) (ops : List Oper) (pre : List Nat) (g : List Stage) : Bool :=
  andF (andF (andF (andF (andF (allF (fun i => anyF (fun x => Nat.beq i x) (ordOf g)) (List.range ops.length)) (allF (fun i => Nat.blt i ops.length) (ordOf g))) (ordF pre (ordOf g))) (stF P ops pre g))
    (idxF (fun o i => andF (allF (fun e => orF (notF (Region.binds .any e)) (Nat.blt e.on i)) o.after.toList)
      (allF (fun j => orF (notF (preF pre j i)) (anyF (fun e => andF (Region.binds .any e) (orF (Nat.beq e.on j) (preF pre j e.on))) o.after.toList)) (List.range ops.length))) ops 0))
    (idxF (fun x i => idxF (fun y j => orF (Nat.beq i j) (orF (preF pre i j) (orF (preF pre j i) (apartF (looks ops y) x y)))) ops 0) ops 0)
theorem blt_dec (i n : Nat) : Nat.blt i n = decide (i < n) := by
  rw [Bool.eq_iff_iff]; simp [Nat.blt]; omega
theorem plF_eq (P : Program) (ops : List Oper) (pre : List Nat) (g : List Stage) : plF P ops pre g = plOk P ops pre g := by
  unfold plF plOk
  simp only [andF_eq, orF_eq, notF_eq, allF_eq, anyF_eq, idxF_eq, ordF_eq, stF_eq, apartF_eq, preF_eq, blt_dec, beq_nat]
  congr 1
  · congr 1
    · congr 1
      · congr 1
        · congr 1
          · congr 1; funext i; rw [List.contains_eq_any_beq]
  · simp only [Bool.or_assoc]
noncomputable def filF {α : Type} (p : α → Bool) (l : List α) : List α := List.rec (motive := fun _ => List α) [] (fun x _ r => Bool.rec (motive := fun _ => List α) r (x :: r) (p x)) l
theorem filF_eq {α : Type} (p : α → Bool) : ∀ l : List α, filF p l = l.filter p
  | [] => rfl
  | x :: l => by
    show Bool.rec (motive := fun _ => List α) (filF p l) (x :: filF p l) (p x) = _
    rw [filF_eq p l, List.filter_cons]; cases p x <;> rfl
noncomputable def planF (P : Program) (ops : List Oper) : Option (List Stage) :=
  (fun (pre : List Nat) (n : Nat) (louds : List Nat) =>
    (fun g => Bool.rec (motive := fun _ => Option (List Stage)) none (some g) (plF P ops pre g))
      ((List.range (lenL louds + 1)).map fun t => { qs := filF (fun i => andF (notF (Nat.beq (match nth ops i with | some o => opKind P o | none => 3) 3)) (Nat.beq (lenL (filF (fun l => preF pre l i) louds)) t)) (List.range n), l := nth louds t : Stage }))
    (preOf ops) ops.length (filF (fun i => Nat.beq (match nth ops i with | some o => opKind P o | none => 3) 3) (List.range ops.length))
theorem planF_eq (P : Program) (ops : List Oper) : planF P ops = planOf P ops := by
  unfold planF planOf
  simp only [filF_eq, plF_eq, nth_eq, lenL_eq, preF_eq, andF_eq, notF_eq, beq_nat, bne_nat]
  generalize plOk P ops _ _ = q
  cases q <;> rfl
end Go.Proofs.YtdhkebolenbpiaaGreatDoor.X

/- A runner for closed calls, part 11: Zk. -/
import Derived.Test.YtdhkebolenbpiaaGreatDoorKnj
namespace Go.Proofs.YtdhkebolenbpiaaGreatDoor.X
open Go.RowKit

/-! ### The same runner, so written that the kernel finds each closed part once -/
structure Bx (α : Type) where
  out : α
noncomputable def Bx.use {α : Type} (b : Bx α) : α := Bx.rec (motive := fun _ => α) (fun x => x) b
theorem Bx.use_mk {α : Type} (a : α) : (Bx.mk a).use = a := rfl
noncomputable def thenR {α β : Type} (r : Rs α) (k : α → St → Rs β) : Rs β := Rs.rec (motive := fun _ => Rs β) (fun a s => k a s) (fun a b => .no a b) r
theorem thenR_eq {α β : Type} (r : Rs α) (k : α → St → Rs β) : thenR r k = liftR r k := by cases r <;> rfl
noncomputable def iff' {α : Type} (c : Bool) (x y : α) : α := Bool.rec (motive := fun _ => α) y x c
theorem iff_eq {α : Type} (c : Bool) (x y : α) : iff' c x y = bif c then x else y := by cases c <;> rfl

/-! Trees: the way to a place is found once -/
noncomputable def getBF {α : Type} (f : Nat) : Nat → Bx (Tr α → Option α) :=
  Nat.rec (motive := fun _ => Nat → Bx (Tr α → Option α)) (fun n => ⟨fun t => t.get n⟩)
    (fun _ go n => Nat.rec (motive := fun _ => Bx (Tr α → Option α)) ⟨fun t => Tr.rec (motive := fun _ => Option α) none (fun _ o _ _ _ => o) t⟩
      (fun m _ => Bool.rec (motive := fun _ => Bx (Tr α → Option α)) ⟨fun t => Tr.rec (motive := fun _ => Option α) none (fun _ _ r _ _ => (go (Nat.div m 2)).use r) t⟩ ⟨fun t => Tr.rec (motive := fun _ => Option α) none (fun l _ _ _ _ => (go (Nat.div m 2)).use l) t⟩ (Nat.beq (Nat.mod m 2) 0)) n) f
theorem getBF_eq {α : Type} : ∀ (f n : Nat) (t : Tr α), (getBF f n).use t = t.get n
  | 0, _, _ => rfl
  | f + 1, 0, t => by cases t <;> rfl
  | f + 1, m + 1, t => by
    have e : getBF (α := α) (f + 1) (m + 1) = Bool.rec (motive := fun _ => Bx (Tr α → Option α)) ⟨fun t => Tr.rec (motive := fun _ => Option α) none (fun _ _ r _ _ => (getBF f (m / 2)).use r) t⟩ ⟨fun t => Tr.rec (motive := fun _ => Option α) none (fun l _ _ _ _ => (getBF f (m / 2)).use l) t⟩ (Nat.beq (m % 2) 0) := rfl
    rw [e]
    cases t with
    | nil => cases Nat.beq (m % 2) 0 <;> rfl
    | node l o r =>
      rw [Tr.get_succ]
      cases h : Nat.beq (m % 2) 0 with
      | true => rw [if_pos (Nat.eq_of_beq_eq_true h)]; exact getBF_eq f _ l
      | false => rw [if_neg (fun hh => by rw [hh] at h; cases h)]; exact getBF_eq f _ r
noncomputable def getB {α : Type} (n : Nat) : Bx (Tr α → Option α) := getBF (Nat.succ n) n
theorem getB_eq {α : Type} (n : Nat) (t : Tr α) : (getB n).use t = t.get n := getBF_eq _ _ _
noncomputable def setBF {α : Type} (f : Nat) : Nat → Bx (α → Tr α → Tr α) :=
  Nat.rec (motive := fun _ => Nat → Bx (α → Tr α → Tr α)) (fun _ => ⟨fun _ t => t⟩)
    (fun _ go n => Nat.rec (motive := fun _ => Bx (α → Tr α → Tr α)) ⟨fun v t => Tr.rec (motive := fun _ => Tr α) (.node .nil (some v) .nil) (fun l _ r _ _ => .node l (some v) r) t⟩
      (fun m _ => Bool.rec (motive := fun _ => Bx (α → Tr α → Tr α))
        ⟨fun v t => Tr.rec (motive := fun _ => Tr α) (.node .nil none ((go (Nat.div m 2)).use v .nil)) (fun l o r _ _ => .node l o ((go (Nat.div m 2)).use v r)) t⟩
        ⟨fun v t => Tr.rec (motive := fun _ => Tr α) (.node ((go (Nat.div m 2)).use v .nil) none .nil) (fun l o r _ _ => .node ((go (Nat.div m 2)).use v l) o r) t⟩ (Nat.beq (Nat.mod m 2) 0)) n) f
theorem setBF_eq {α : Type} (v : α) : ∀ (f n : Nat) (t : Tr α), (setBF f n).use v t = Tr.setF v f t n
  | 0, _, _ => rfl
  | f + 1, 0, t => by cases t <;> rfl
  | f + 1, m + 1, t => by
    have e : setBF (α := α) (f + 1) (m + 1) = Bool.rec (motive := fun _ => Bx (α → Tr α → Tr α))
        ⟨fun v t => Tr.rec (motive := fun _ => Tr α) (.node .nil none ((setBF f (m / 2)).use v .nil)) (fun l o r _ _ => .node l o ((setBF f (m / 2)).use v r)) t⟩
        ⟨fun v t => Tr.rec (motive := fun _ => Tr α) (.node ((setBF f (m / 2)).use v .nil) none .nil) (fun l o r _ _ => .node ((setBF f (m / 2)).use v l) o r) t⟩ (Nat.beq (m % 2) 0) := rfl
    rw [e, Tr.setF_succ]
    cases h : Nat.beq (m % 2) 0 with
    | true =>
      rw [if_pos (Nat.eq_of_beq_eq_true h)]
      cases t with
      | nil => show Tr.node ((setBF f (m / 2)).use v .nil) none .nil = _; rw [setBF_eq v f]; rfl
      | node l o r => show Tr.node ((setBF f (m / 2)).use v l) o r = _; rw [setBF_eq v f]; rfl
    | false =>
      rw [if_neg (fun hh => by rw [hh] at h; cases h)]
      cases t with
      | nil => show Tr.node .nil none ((setBF f (m / 2)).use v .nil) = _; rw [setBF_eq v f]; rfl
      | node l o r => show Tr.node l o ((setBF f (m / 2)).use v r) = _; rw [setBF_eq v f]; rfl
noncomputable def setB {α : Type} (n : Nat) : Bx (α → Tr α → Tr α) := setBF (Nat.succ n) n
theorem setB_eq {α : Type} (n : Nat) (v : α) (t : Tr α) : (setB n).use v t = t.set n v := setBF_eq _ _ _ _

theorem ev_tmp (a : Ac) (t : Tmp) : ev a (.tmp t) = match a.t.get t with | some v => v | none => undef := rfl
noncomputable def evB (x : Operand) : Bx (Ac → Value) :=
  match x with
  | .tmp t => ⟨fun a => Option.rec (motive := fun _ => Value) undef (fun v => v) ((getB t).use a.t)⟩
  | .const v => ⟨fun _ => v⟩
  | .global g => ⟨fun _ => .pointer (some ⟨g, 0, none⟩)⟩
  | .func f => ⟨fun _ => .func (.func f) #[] #[]⟩
theorem evB_eq (x : Operand) (a : Ac) : (evB x).use a = ev a x := by
  cases x with
  | tmp t =>
    show Option.rec (motive := fun _ => Value) undef (fun v => v) ((getB t).use a.t) = _
    rw [ev_tmp, getB_eq]
    cases a.t.get t <;> rfl
  | const v => rfl
  | global g => rfl
  | func f => rfl
noncomputable def putB (dst : Option Tmp) : Bx (Ac → Value → Ac) :=
  match dst with
  | some d => ⟨fun a v => Ac.rec (motive := fun _ => Ac) (fun n t ds => Bool.rec (motive := fun _ => Ac) ⟨n, t, ds⟩ ⟨n, (setB d).use v t, ds⟩ (Nat.ble (Nat.succ d) n)) a⟩
  | none => ⟨fun a _ => a⟩
theorem putB_eq (dst : Option Tmp) (a : Ac) (v : Value) : (putB dst).use a v = put a dst v := by
  cases dst with
  | none => rfl
  | some d =>
    cases a with
    | mk n t ds =>
      show Bool.rec (motive := fun _ => Ac) ⟨n, t, ds⟩ ⟨n, (setB d).use v t, ds⟩ (Nat.ble (Nat.succ d) n) = put ⟨n, t, ds⟩ (some d) v
      unfold put
      rw [setB_eq]
      show _ = bif Nat.blt d n then _ else _
      show _ = bif Nat.ble (Nat.succ d) n then _ else _
      cases Nat.ble (Nat.succ d) n <;> rfl
noncomputable def dropC {α : Type} (k : Nat) (l : List α) : List α := Nat.rec (motive := fun _ => List α) l (fun _ r => dropL 16 r) k
noncomputable def nthC {α : Type} (l : List α) (n : Nat) : Option α := nth (dropC (Nat.div n 16) l) (Nat.mod n 16)
theorem dropL_eq' {α : Type} : ∀ (n : Nat) (l : List α), dropL n l = l.drop n
  | 0, _ => rfl
  | _ + 1, [] => rfl
  | n + 1, _ :: l => dropL_eq' n l
theorem dropC_eq {α : Type} (l : List α) : ∀ k, dropC k l = l.drop (16 * k)
  | 0 => rfl
  | k + 1 => by
    show dropL 16 (dropC k l) = _
    rw [dropL_eq', dropC_eq l k, List.drop_drop]
    congr 1
theorem nthC_eq {α : Type} (l : List α) (n : Nat) : nthC l n = l[n]? := by
  unfold nthC
  rw [dropC_eq, nth_eq, List.getElem?_drop]
  congr 1
  show 16 * (n / 16) + n % 16 = n
  omega
noncomputable def argsB (l : List Operand) : Bx (Ac → List Value) :=
  List.rec (motive := fun _ => Bx (Ac → List Value)) ⟨fun _ => []⟩ (fun x _ r => ⟨fun a => (evB x).use a :: r.use a⟩) l
theorem argsB_eq (l : List Operand) (a : Ac) : (argsB l).use a = l.map (ev a) := by
  induction l with
  | nil => rfl
  | cons x l ih =>
    show (evB x).use a :: (argsB l).use a = _
    rw [evB_eq, ih]; rfl
theorem appL_nil {α : Type} (l : List α) : appL l [] = l := by
  induction l with
  | nil => rfl
  | cons x l ih => show x :: appL l [] = _; rw [ih]

/-! ### Quick ways for what comes most -/
section
variable {β : Type}
noncomputable def asBool (v : Value) (k : Bool → β) (d : β) : β :=
  Value.casesOn (motive_1 := fun _ => β) v k (fun _ _ => d) (fun _ _ => d) (fun _ _ _ => d) (fun _ => d) (fun _ => d) (fun _ _ _ => d) (fun _ => d) (fun _ => d) (fun _ _ _ => d) d (fun _ _ => d) d (fun _ => d) (fun _ => d)
noncomputable def asInt (v : Value) (k : IntKind → Int → β) (d : β) : β :=
  Value.casesOn (motive_1 := fun _ => β) v (fun _ => d) k (fun _ _ => d) (fun _ _ _ => d) (fun _ => d) (fun _ => d) (fun _ _ _ => d) (fun _ => d) (fun _ => d) (fun _ _ _ => d) d (fun _ _ => d) d (fun _ => d) (fun _ => d)
noncomputable def asPtr (v : Value) (k : Addr → β) (d : β) : β :=
  Value.casesOn (motive_1 := fun _ => β) v (fun _ => d) (fun _ _ => d) (fun _ _ => d) (fun _ _ _ => d) (fun _ => d) (fun p => Option.rec (motive := fun _ => β) d k p) (fun _ _ _ => d) (fun _ => d) (fun _ => d) (fun _ _ _ => d) d (fun _ _ => d) d (fun _ => d) (fun _ => d)
noncomputable def asSl (v : Value) (k : Addr → Nat → Nat → β) (d : β) : β :=
  Value.casesOn (motive_1 := fun _ => β) v (fun _ => d) (fun _ _ => d) (fun _ _ => d) (fun _ _ _ => d) (fun _ => d) (fun _ => d) (fun p n c => Option.rec (motive := fun _ => β) d (fun a => k a n c) p) (fun _ => d) (fun _ => d) (fun _ _ _ => d) d (fun _ _ => d) d (fun _ => d) (fun _ => d)
theorem asBool_cases (v : Value) (k : Bool → β) (d : β) : (∃ b, v = .bool b ∧ asBool v k d = k b) ∨ asBool v k d = d := by
  cases v with
  | bool b => exact .inl ⟨b, rfl, rfl⟩
  | _ => exact .inr rfl
theorem asInt_cases (v : Value) (k : IntKind → Int → β) (d : β) : (∃ j n, v = .int j n ∧ asInt v k d = k j n) ∨ asInt v k d = d := by
  cases v with
  | int j n => exact .inl ⟨j, n, rfl, rfl⟩
  | _ => exact .inr rfl
theorem asPtr_cases (v : Value) (k : Addr → β) (d : β) : (∃ a, v = .pointer (some a) ∧ asPtr v k d = k a) ∨ asPtr v k d = d := by
  cases v with
  | pointer p => cases p with
    | none => exact .inr rfl
    | some a => exact .inl ⟨a, rfl, rfl⟩
  | _ => exact .inr rfl
theorem asSl_cases (v : Value) (k : Addr → Nat → Nat → β) (d : β) : (∃ a n c, v = .slice (some a) n c ∧ asSl v k d = k a n c) ∨ asSl v k d = d := by
  cases v with
  | slice p n c => cases p with
    | none => exact .inr rfl
    | some a => exact .inl ⟨a, n, c, rfl, rfl⟩
  | _ => exact .inr rfl

noncomputable def forceN (n : Nat) (k : Nat → β) : β := Nat.rec (motive := fun _ => β) (k 0) (fun m _ => k (Nat.succ m)) n
theorem forceN_eq (n : Nat) (k : Nat → β) : forceN n k = k n := by cases n <;> rfl
end
noncomputable def ixK (k : IntKind) : Nat := IntKind.rec (motive := fun _ => Nat) 0 1 2 3 4 5 6 7 k
noncomputable def eqK (k k' : IntKind) : Bool := Nat.beq (ixK k) (ixK k')
theorem eqK_eq {k k' : IntKind} (h : eqK k k' = true) : k = k' := by revert h; cases k <;> cases k' <;> decide
noncomputable def maxN (k : IntKind) : Nat := IntKind.rec (motive := fun _ => Nat) 127 32767 2147483647 9223372036854775807 255 65535 4294967295 18446744073709551615 k
noncomputable def sgn (k : IntKind) : Bool := IntKind.rec (motive := fun _ => Bool) true true true true false false false false k
/-- A number of a kind: itself where it fits. -/
noncomputable def wrapF {β : Type} (k : IntKind) (i : Int) (f : Int → β) : β :=
  Int.rec (motive := fun _ => β) (fun n => iff' (Nat.ble n (maxN k)) (forceN n fun n => f (.ofNat n)) (f (k.wrap (.ofNat n))))
    (fun n => iff' (sgn k) (iff' (Nat.ble n (maxN k)) (forceN n fun n => f (.negSucc n)) (f (k.wrap (.negSucc n)))) (f (k.wrap (.negSucc n)))) i
theorem wrap_pos (k : IntKind) (n : Nat) (h : n ≤ maxN k) : k.wrap (.ofNat n) = .ofNat n := by
  have e : Int.ofNat n = (n : Int) := rfl
  cases k <;> simp only [maxN, IntKind.wrap, IntKind.bits, IntKind.signed, e] at h ⊢ <;> simp <;> omega
theorem wrap_neg (k : IntKind) (n : Nat) (hs : sgn k = true) (h : n ≤ maxN k) : k.wrap (.negSucc n) = .negSucc n := by
  have e : Int.negSucc n = -(n + 1 : Int) := by omega
  rw [e]
  cases k <;> simp only [maxN, sgn, IntKind.wrap, IntKind.bits, IntKind.signed] at h hs ⊢ <;> simp at hs ⊢ <;> omega
theorem wrapF_eq {β : Type} (k : IntKind) (i : Int) (f : Int → β) : wrapF k i f = f (k.wrap i) := by
  cases i with
  | ofNat n =>
    show iff' (Nat.ble n (maxN k)) (forceN n fun n => f (.ofNat n)) (f (k.wrap (.ofNat n))) = _
    rw [iff_eq, forceN_eq]
    cases h : Nat.ble n (maxN k) with
    | true => rw [wrap_pos k n (Nat.le_of_ble_eq_true h)]; rfl
    | false => rfl
  | negSucc n =>
    show iff' (sgn k) (iff' (Nat.ble n (maxN k)) (forceN n fun n => f (.negSucc n)) (f (k.wrap (.negSucc n)))) (f (k.wrap (.negSucc n))) = _
    rw [iff_eq, iff_eq, forceN_eq]
    cases hs : sgn k with
    | false => rfl
    | true =>
      cases h : Nat.ble n (maxN k) with
      | true => rw [wrap_neg k n hs (Nat.le_of_ble_eq_true h)]; rfl
      | false => rfl

noncomputable def addF (x y : Int) : Int := Int.rec (motive := fun _ => Int) (fun m => Int.rec (motive := fun _ => Int) (fun n => .ofNat (Nat.add m n)) (fun _ => Int.add x y) y) (fun _ => Int.add x y) x
noncomputable def subF (x y : Int) : Int := Int.rec (motive := fun _ => Int) (fun m => Int.rec (motive := fun _ => Int) (fun n => iff' (Nat.ble n m) (.ofNat (Nat.sub m n)) (.negSucc (Nat.sub (Nat.sub n m) 1))) (fun _ => Int.sub x y) y) (fun _ => Int.sub x y) x
noncomputable def mulF (x y : Int) : Int := Int.rec (motive := fun _ => Int) (fun m => Int.rec (motive := fun _ => Int) (fun n => .ofNat (Nat.mul m n)) (fun _ => Int.mul x y) y) (fun _ => Int.mul x y) x
noncomputable def eqF (x y : Int) : Bool := Int.rec (motive := fun _ => Bool) (fun m => Int.rec (motive := fun _ => Bool) (fun n => Nat.beq m n) (fun _ => false) y) (fun m => Int.rec (motive := fun _ => Bool) (fun _ => false) (fun n => Nat.beq m n) y) x
noncomputable def ltF (x y : Int) : Bool := Int.rec (motive := fun _ => Bool) (fun m => Int.rec (motive := fun _ => Bool) (fun n => Nat.ble (Nat.succ m) n) (fun _ => false) y) (fun m => Int.rec (motive := fun _ => Bool) (fun _ => true) (fun n => Nat.ble (Nat.succ n) m) y) x
theorem addF_eq (x y : Int) : addF x y = x + y := by cases x <;> cases y <;> rfl
theorem mulF_eq (x y : Int) : mulF x y = x * y := by
  cases x <;> cases y <;> first | rfl | skip
theorem subF_eq (x y : Int) : subF x y = x - y := by
  cases x with
  | negSucc m => rfl
  | ofNat m =>
    cases y with
    | negSucc n => rfl
    | ofNat n =>
      show iff' (Nat.ble n m) (Int.ofNat (Nat.sub m n)) (Int.negSucc (Nat.sub (Nat.sub n m) 1)) = _
      rw [iff_eq]
      cases h : Nat.ble n m with
      | true =>
        have := Nat.le_of_ble_eq_true h
        show ((m - n : Nat) : Int) = (m : Int) - (n : Int)
        omega
      | false =>
        have : ¬ n ≤ m := fun hh => by rw [Nat.ble_eq_true_of_le hh] at h; cases h
        show Int.negSucc (n - m - 1) = (m : Int) - (n : Int)
        omega
theorem eqF_eq (x y : Int) : eqF x y = (x == y) := by
  cases x with
  | ofNat m => cases y with
    | ofNat n => show Nat.beq m n = _; rw [Bool.eq_iff_iff]; simp; omega
    | negSucc n => show false = _; symm; rw [beq_eq_false_iff_ne]; intro h; cases h
  | negSucc m => cases y with
    | negSucc n => show Nat.beq m n = _; rw [Bool.eq_iff_iff]; simp
    | ofNat n => show false = _; symm; rw [beq_eq_false_iff_ne]; intro h; cases h
theorem ltF_eq (x y : Int) : ltF x y = ltI x y := by cases x <;> cases y <;> rfl
section
variable (P : Program)
theorem guard_int (op : BinOp) (t : TypeId) (x y : Operand) (k k' : IntKind) (m n : Int) : eqGuard op t x y (.int k m) (.int k' n) = pure () := by
  unfold eqGuard
  cases op <;> rfl
theorem doBin_int {op : BinOp} {t : TypeId} {x y : Operand} {k k' : IntKind} {m n : Int} {s : St} {v : Value} (h1 : cmpI op (.int k m) (.int k' n) = none) (h2 : binOp op t (.int k m) (.int k' n) = pure v) (h3 : flat v = true) :
    doBin P op t x y (.int k m) (.int k' n) s = .ok v s := by
  unfold doBin
  rw [h1]
  dsimp only
  have e : strBin op (.int k m) (.int k' n) = none := by cases op <;> rfl
  rw [e]
  dsimp only
  rw [guard_int, h2]
  show (bif true && true then (match (some v : Option Value) with | some v => bif flat v then Rs.ok v s else .no 45 0 | none => .no 46 0) else _) = _
  simp only [Bool.and_true, cond_true, h3]
theorem kk (k : IntKind) {α : Type} (x y : α) : (if k ≠ k then x else y) = y := if_neg (fun h => h rfl)
theorem bin_add {t x y k m n s} : doBin P .add t x y (.int k m) (.int k n) s = .ok (.int k (k.wrap (m + n))) s := doBin_int P rfl (by unfold binOp; exact kk k _ _) rfl
theorem bin_sub {t x y k m n s} : doBin P .sub t x y (.int k m) (.int k n) s = .ok (.int k (k.wrap (m - n))) s := doBin_int P rfl (by unfold binOp; exact kk k _ _) rfl
theorem bin_mul {t x y k m n s} : doBin P .mul t x y (.int k m) (.int k n) s = .ok (.int k (k.wrap (m * n))) s := doBin_int P rfl (by unfold binOp; exact kk k _ _) rfl
theorem bin_eql {t x y k m n s} : doBin P .eql t x y (.int k m) (.int k n) s = .ok (.bool (m == n)) s := doBin_int P rfl (by unfold binOp; exact kk k _ _) rfl
theorem bin_neq {t x y k m n s} : doBin P .neq t x y (.int k m) (.int k n) s = .ok (.bool (m != n)) s := doBin_int P rfl (by unfold binOp; exact kk k _ _) rfl
theorem bin_and {t x y k m n s} : doBin P .and t x y (.int k m) (.int k n) s = .ok (.int k (k.wrap (BitVec.ofInt k.bits m &&& BitVec.ofInt k.bits n).toNat)) s := doBin_int P rfl (by unfold binOp; exact kk k _ _) rfl
theorem bin_xor {t x y k m n s} : doBin P .xor t x y (.int k m) (.int k n) s = .ok (.int k (k.wrap (BitVec.ofInt k.bits m ^^^ BitVec.ofInt k.bits n).toNat)) s := doBin_int P rfl (by unfold binOp; exact kk k _ _) rfl
theorem bin_or {t x y k m n s} : doBin P .or t x y (.int k m) (.int k n) s = .ok (.int k (k.wrap (BitVec.ofInt k.bits m ||| BitVec.ofInt k.bits n).toNat)) s := doBin_int P rfl (by unfold binOp; exact kk k _ _) rfl
theorem bin_cmp {t x y k m n s} {op : BinOp} {r : Bool} (h : cmpI op (.int k m) (.int k n) = some r) : doBin P op t x y (.int k m) (.int k n) s = .ok (.bool r) s := by
  unfold doBin
  rw [h]
theorem cmp_kk {k : IntKind} {r : Bool} : (bif decide (k = k) then some r else none) = some r := by simp
theorem bin_lss {t x y k m n s} : doBin P .lss t x y (.int k m) (.int k n) s = .ok (.bool (ltI m n)) s := bin_cmp P cmp_kk
theorem bin_gtr {t x y k m n s} : doBin P .gtr t x y (.int k m) (.int k n) s = .ok (.bool (ltI n m)) s := bin_cmp P cmp_kk
theorem bin_leq {t x y k m n s} : doBin P .leq t x y (.int k m) (.int k n) s = .ok (.bool (!ltI n m)) s := bin_cmp P cmp_kk
theorem bin_geq {t x y k m n s} : doBin P .geq t x y (.int k m) (.int k n) s = .ok (.bool (!ltI m n)) s := bin_cmp P cmp_kk
theorem bits_le (k : IntKind) (n : Nat) (h : n ≤ maxN k) : n % 2 ^ k.bits = n := by
  refine Nat.mod_eq_of_lt ?_
  cases k <;> simp only [maxN, IntKind.bits] at h ⊢ <;> omega
theorem ofInt_small (k : IntKind) (n : Nat) (h : n ≤ maxN k) : (BitVec.ofInt k.bits (Int.ofNat n)).toNat = n := by
  rw [show (Int.ofNat n) = ((n : Nat) : Int) from rfl, BitVec.ofInt_natCast, BitVec.toNat_ofNat, bits_le k n h]
theorem maxN_two (k : IntKind) : ∃ e, maxN k + 1 = 2 ^ e := by
  cases k
  · exact ⟨7, rfl⟩
  · exact ⟨15, rfl⟩
  · exact ⟨31, rfl⟩
  · exact ⟨63, rfl⟩
  · exact ⟨8, rfl⟩
  · exact ⟨16, rfl⟩
  · exact ⟨32, rfl⟩
  · exact ⟨64, rfl⟩
theorem and_small (k : IntKind) (m n : Nat) (h : m ≤ maxN k) (h' : n ≤ maxN k) : k.wrap (BitVec.ofInt k.bits (Int.ofNat m) &&& BitVec.ofInt k.bits (Int.ofNat n)).toNat = Int.ofNat (Nat.land m n) := by
  rw [BitVec.toNat_and, ofInt_small k m h, ofInt_small k n h']
  exact wrap_pos k _ (Nat.le_trans Nat.and_le_left h)
theorem xor_small (k : IntKind) (m n : Nat) (h : m ≤ maxN k) (h' : n ≤ maxN k) : k.wrap (BitVec.ofInt k.bits (Int.ofNat m) ^^^ BitVec.ofInt k.bits (Int.ofNat n)).toNat = Int.ofNat (Nat.xor m n) := by
  rw [BitVec.toNat_xor, ofInt_small k m h, ofInt_small k n h']
  obtain ⟨e, he⟩ := maxN_two k
  exact wrap_pos k _ (by have := Nat.xor_lt_two_pow (n := e) (x := m) (y := n) (by omega) (by omega); show m ^^^ n ≤ _; omega)
theorem or_small (k : IntKind) (m n : Nat) (h : m ≤ maxN k) (h' : n ≤ maxN k) : k.wrap (BitVec.ofInt k.bits (Int.ofNat m) ||| BitVec.ofInt k.bits (Int.ofNat n)).toNat = Int.ofNat (Nat.lor m n) := by
  rw [BitVec.toNat_or, ofInt_small k m h, ofInt_small k n h']
  obtain ⟨e, he⟩ := maxN_two k
  exact wrap_pos k _ (by have := Nat.or_lt_two_pow (n := e) (x := m) (y := n) (by omega) (by omega); show m ||| n ≤ _; omega)
theorem bin_shr {t x y k k' m n s} : doBin P .shr t x y (.int k (.ofNat m)) (.int k' (.ofNat n)) s = .ok (.int k (.ofNat (m / 2 ^ min n k.bits))) s := by
  refine doBin_int P rfl ?_ rfl
  unfold binOp
  show Op.shift .shr k (.ofNat m) k' (.ofNat n) = _
  unfold Op.shift
  rw [if_neg (by show ¬ ((n : Nat) : Int) < 0; omega)]
  dsimp only
  rw [show (Int.ofNat m).fdiv (2 ^ min (Int.ofNat n).toNat k.bits) = Int.ofNat (m / 2 ^ min n k.bits) from by
    show ((m : Nat) : Int).fdiv (2 ^ min n k.bits) = _
    rw [show ((2 : Int) ^ min n k.bits) = ((2 ^ min n k.bits : Nat) : Int) from by push_cast; rfl]
    exact (Int.ofNat_fdiv m (2 ^ min n k.bits)).symm]

noncomputable def intInt {β : Type} (a b : Value) (f : IntKind → Int → Int → β) (d : β) : β := asInt a (fun k m => asInt b (fun k' n => iff' (eqK k k') (f k m n) d) d) d
theorem intInt_cases {β : Type} (a b : Value) (f : IntKind → Int → Int → β) (d : β) : (∃ k m n, a = .int k m ∧ b = .int k n ∧ intInt a b f d = f k m n) ∨ intInt a b f d = d := by
  unfold intInt
  rcases asInt_cases a (fun k m => asInt b (fun k' n => iff' (eqK k k') (f k m n) d) d) d with ⟨k, m, rfl, e⟩ | e
  · rw [e]
    rcases asInt_cases b (fun k' n => iff' (eqK k k') (f k m n) d) d with ⟨k', n, rfl, e'⟩ | e'
    · rw [e', iff_eq]
      cases h : eqK k k' with
      | true =>
        have := eqK_eq h
        subst this
        exact .inl ⟨k, m, n, rfl, rfl, rfl⟩
      | false => exact .inr rfl
    · exact .inr e'
  · exact .inr e
noncomputable def natNat {β : Type} (k : IntKind) (x y : Int) (f : Nat → Nat → β) (d : β) : β :=
  Int.rec (motive := fun _ => β) (fun m => Int.rec (motive := fun _ => β) (fun n => iff' (Nat.ble m (maxN k)) (iff' (Nat.ble n (maxN k)) (f m n) d) d) (fun _ => d) y) (fun _ => d) x
theorem natNat_cases {β : Type} (k : IntKind) (x y : Int) (f : Nat → Nat → β) (d : β) : (∃ m n, x = .ofNat m ∧ y = .ofNat n ∧ m ≤ maxN k ∧ n ≤ maxN k ∧ natNat k x y f d = f m n) ∨ natNat k x y f d = d := by
  cases x with
  | negSucc m => exact .inr rfl
  | ofNat m =>
    cases y with
    | negSucc n => exact .inr rfl
    | ofNat n =>
      show (∃ m' n', _ ∧ _ ∧ _ ∧ _ ∧ iff' (Nat.ble m (maxN k)) (iff' (Nat.ble n (maxN k)) (f m n) d) d = f m' n') ∨ iff' (Nat.ble m (maxN k)) (iff' (Nat.ble n (maxN k)) (f m n) d) d = d
      rw [iff_eq, iff_eq]
      cases h : Nat.ble m (maxN k) with
      | false => exact .inr rfl
      | true =>
        cases h' : Nat.ble n (maxN k) with
        | false => exact .inr rfl
        | true => exact .inl ⟨m, n, rfl, rfl, Nat.le_of_ble_eq_true h, Nat.le_of_ble_eq_true h', rfl⟩
noncomputable def binB (op : BinOp) (t : TypeId) (x y : Operand) : Bx (Value → Value → St → Rs Value) :=
  match op with
  | .add => ⟨fun a b s => intInt a b (fun k m n => wrapF k (addF m n) fun r => .ok (.int k r) s) (doBin P .add t x y a b s)⟩
  | .sub => ⟨fun a b s => intInt a b (fun k m n => wrapF k (subF m n) fun r => .ok (.int k r) s) (doBin P .sub t x y a b s)⟩
  | .mul => ⟨fun a b s => intInt a b (fun k m n => wrapF k (mulF m n) fun r => .ok (.int k r) s) (doBin P .mul t x y a b s)⟩
  | .eql => ⟨fun a b s => intInt a b (fun _ m n => .ok (.bool (eqF m n)) s) (doBin P .eql t x y a b s)⟩
  | .neq => ⟨fun a b s => intInt a b (fun _ m n => .ok (.bool (iff' (eqF m n) false true)) s) (doBin P .neq t x y a b s)⟩
  | .lss => ⟨fun a b s => intInt a b (fun _ m n => .ok (.bool (ltF m n)) s) (doBin P .lss t x y a b s)⟩
  | .gtr => ⟨fun a b s => intInt a b (fun _ m n => .ok (.bool (ltF n m)) s) (doBin P .gtr t x y a b s)⟩
  | .leq => ⟨fun a b s => intInt a b (fun _ m n => .ok (.bool (iff' (ltF n m) false true)) s) (doBin P .leq t x y a b s)⟩
  | .geq => ⟨fun a b s => intInt a b (fun _ m n => .ok (.bool (iff' (ltF m n) false true)) s) (doBin P .geq t x y a b s)⟩
  | .and => ⟨fun a b s => intInt a b (fun k m n => natNat k m n (fun i j => .ok (.int k (.ofNat (Nat.land i j))) s) (doBin P .and t x y a b s)) (doBin P .and t x y a b s)⟩
  | .xor => ⟨fun a b s => intInt a b (fun k m n => natNat k m n (fun i j => .ok (.int k (.ofNat (Nat.xor i j))) s) (doBin P .xor t x y a b s)) (doBin P .xor t x y a b s)⟩
  | .or => ⟨fun a b s => intInt a b (fun k m n => natNat k m n (fun i j => .ok (.int k (.ofNat (Nat.lor i j))) s) (doBin P .or t x y a b s)) (doBin P .or t x y a b s)⟩
  | .shr => ⟨fun a b s => asInt a (fun k m => asInt b (fun _ n => Int.rec (motive := fun _ => Rs Value) (fun i => Int.rec (motive := fun _ => Rs Value) (fun j => forceN (Nat.div i (Nat.pow 2 (min j k.bits))) fun r => .ok (.int k (.ofNat r)) s) (fun _ => doBin P .shr t x y a b s) n) (fun _ => doBin P .shr t x y a b s) m) (doBin P .shr t x y a b s)) (doBin P .shr t x y a b s)⟩
  | op => ⟨fun a b s => doBin P op t x y a b s⟩
theorem not_not_eq (b : Bool) : iff' b false true = !b := by cases b <;> rfl
theorem binB_eq (op : BinOp) (t : TypeId) (x y : Operand) (a b : Value) (s : St) : (binB P op t x y).use a b s = doBin P op t x y a b s := by
  cases op
  case shr =>
    show asInt a (fun k m => asInt b (fun _ n => Int.rec (motive := fun _ => Rs Value) (fun i => Int.rec (motive := fun _ => Rs Value) (fun j => forceN (Nat.div i (Nat.pow 2 (min j k.bits))) fun r => .ok (.int k (.ofNat r)) s) (fun _ => doBin P .shr t x y a b s) n) (fun _ => doBin P .shr t x y a b s) m) (doBin P .shr t x y a b s)) (doBin P .shr t x y a b s) = _
    rcases asInt_cases a (fun k m => asInt b (fun _ n => Int.rec (motive := fun _ => Rs Value) (fun i => Int.rec (motive := fun _ => Rs Value) (fun j => forceN (Nat.div i (Nat.pow 2 (min j k.bits))) fun r => .ok (.int k (.ofNat r)) s) (fun _ => doBin P .shr t x y a b s) n) (fun _ => doBin P .shr t x y a b s) m) (doBin P .shr t x y a b s)) (doBin P .shr t x y a b s) with ⟨k, m, rfl, e⟩ | e
    · rw [e]
      rcases asInt_cases b (fun _ n => Int.rec (motive := fun _ => Rs Value) (fun i => Int.rec (motive := fun _ => Rs Value) (fun j => forceN (Nat.div i (Nat.pow 2 (min j k.bits))) fun r => .ok (.int k (.ofNat r)) s) (fun _ => doBin P .shr t x y (.int k m) b s) n) (fun _ => doBin P .shr t x y (.int k m) b s) m) (doBin P .shr t x y (.int k m) b s) with ⟨k', n, rfl, e'⟩ | e'
      · rw [e']
        cases m with
        | negSucc i => rfl
        | ofNat i =>
          cases n with
          | negSucc j => rfl
          | ofNat j =>
            show forceN (Nat.div i (Nat.pow 2 (min j k.bits))) (fun r => Rs.ok (Value.int k (Int.ofNat r)) s) = _
            rw [forceN_eq, bin_shr]; rfl
      · exact e'
    · exact e
  case and =>
    show intInt a b (fun k m n => natNat k m n (fun i j => .ok (.int k (.ofNat (Nat.land i j))) s) (doBin P .and t x y a b s)) (doBin P .and t x y a b s) = _
    rcases intInt_cases a b (fun k m n => natNat k m n (fun i j => .ok (.int k (.ofNat (Nat.land i j))) s) (doBin P .and t x y a b s)) (doBin P .and t x y a b s) with ⟨k, m, n, rfl, rfl, e⟩ | e
    · rw [e]
      rcases natNat_cases k m n (fun i j => Rs.ok (.int k (.ofNat (Nat.land i j))) s) (doBin P .and t x y (.int k m) (.int k n) s) with ⟨i, j, rfl, rfl, h1, h2, e2⟩ | e2
      · rw [e2, bin_and, and_small k i j h1 h2]
      · exact e2
    · exact e
  case xor =>
    show intInt a b (fun k m n => natNat k m n (fun i j => .ok (.int k (.ofNat (Nat.xor i j))) s) (doBin P .xor t x y a b s)) (doBin P .xor t x y a b s) = _
    rcases intInt_cases a b (fun k m n => natNat k m n (fun i j => .ok (.int k (.ofNat (Nat.xor i j))) s) (doBin P .xor t x y a b s)) (doBin P .xor t x y a b s) with ⟨k, m, n, rfl, rfl, e⟩ | e
    · rw [e]
      rcases natNat_cases k m n (fun i j => Rs.ok (.int k (.ofNat (Nat.xor i j))) s) (doBin P .xor t x y (.int k m) (.int k n) s) with ⟨i, j, rfl, rfl, h1, h2, e2⟩ | e2
      · rw [e2, bin_xor, xor_small k i j h1 h2]
      · exact e2
    · exact e
  case or =>
    show intInt a b (fun k m n => natNat k m n (fun i j => .ok (.int k (.ofNat (Nat.lor i j))) s) (doBin P .or t x y a b s)) (doBin P .or t x y a b s) = _
    rcases intInt_cases a b (fun k m n => natNat k m n (fun i j => .ok (.int k (.ofNat (Nat.lor i j))) s) (doBin P .or t x y a b s)) (doBin P .or t x y a b s) with ⟨k, m, n, rfl, rfl, e⟩ | e
    · rw [e]
      rcases natNat_cases k m n (fun i j => Rs.ok (.int k (.ofNat (Nat.lor i j))) s) (doBin P .or t x y (.int k m) (.int k n) s) with ⟨i, j, rfl, rfl, h1, h2, e2⟩ | e2
      · rw [e2, bin_or, or_small k i j h1 h2]
      · exact e2
    · exact e
  case add =>
    rcases intInt_cases a b (fun k m n => wrapF k (addF m n) fun r => Rs.ok (.int k r) s) (doBin P .add t x y a b s) with ⟨k, m, n, rfl, rfl, e⟩ | e
    · refine e.trans ?_; rw [bin_add, wrapF_eq, addF_eq]
    · exact e
  case sub =>
    rcases intInt_cases a b (fun k m n => wrapF k (subF m n) fun r => Rs.ok (.int k r) s) (doBin P .sub t x y a b s) with ⟨k, m, n, rfl, rfl, e⟩ | e
    · refine e.trans ?_; rw [bin_sub, wrapF_eq, subF_eq]
    · exact e
  case mul =>
    rcases intInt_cases a b (fun k m n => wrapF k (mulF m n) fun r => Rs.ok (.int k r) s) (doBin P .mul t x y a b s) with ⟨k, m, n, rfl, rfl, e⟩ | e
    · refine e.trans ?_; rw [bin_mul, wrapF_eq, mulF_eq]
    · exact e
  case eql =>
    rcases intInt_cases a b (fun _ m n => Rs.ok (.bool (eqF m n)) s) (doBin P .eql t x y a b s) with ⟨k, m, n, rfl, rfl, e⟩ | e
    · refine e.trans ?_; rw [bin_eql, eqF_eq]
    · exact e
  case neq =>
    rcases intInt_cases a b (fun _ m n => Rs.ok (.bool (iff' (eqF m n) false true)) s) (doBin P .neq t x y a b s) with ⟨k, m, n, rfl, rfl, e⟩ | e
    · refine e.trans ?_; rw [bin_neq, eqF_eq, not_not_eq]; rfl
    · exact e
  case lss =>
    rcases intInt_cases a b (fun _ m n => Rs.ok (.bool (ltF m n)) s) (doBin P .lss t x y a b s) with ⟨k, m, n, rfl, rfl, e⟩ | e
    · refine e.trans ?_; rw [bin_lss, ltF_eq]
    · exact e
  case gtr =>
    rcases intInt_cases a b (fun _ m n => Rs.ok (.bool (ltF n m)) s) (doBin P .gtr t x y a b s) with ⟨k, m, n, rfl, rfl, e⟩ | e
    · refine e.trans ?_; rw [bin_gtr, ltF_eq]
    · exact e
  case leq =>
    rcases intInt_cases a b (fun _ m n => Rs.ok (.bool (iff' (ltF n m) false true)) s) (doBin P .leq t x y a b s) with ⟨k, m, n, rfl, rfl, e⟩ | e
    · refine e.trans ?_; rw [bin_leq, ltF_eq, not_not_eq]
    · exact e
  case geq =>
    rcases intInt_cases a b (fun _ m n => Rs.ok (.bool (iff' (ltF m n) false true)) s) (doBin P .geq t x y a b s) with ⟨k, m, n, rfl, rfl, e⟩ | e
    · refine e.trans ?_; rw [bin_geq, ltF_eq, not_not_eq]
    · exact e
  all_goals rfl
end
section
variable (P : Program) (G : Nat)
noncomputable def infoF (t : TypeId) : Option TypeInfo := Option.rec (motive := fun _ => Option TypeInfo) (P.info? t) (fun i => some i) (nthC P.types.toList t)
theorem infoF_eq (t : TypeId) : infoF P t = P.info? t := by
  unfold infoF
  cases h : nthC P.types.toList t with
  | none => rfl
  | some i =>
    rw [nthC_eq] at h
    have h : P.types[t]? = some i := by simpa using h
    have hlt := (Array.getElem?_eq_some_iff.1 h).1
    show some i = P.toTables.info? t
    unfold Tables.info?
    rw [if_pos hlt, h]
noncomputable def undF (t : TypeId) : Option TypeDesc :=
  match infoF P t with
  | some { desc := .named _ u, .. } => (infoF P u).map (·.desc)
  | some i => some i.desc
  | none => none
theorem undF_eq (t : TypeId) : undF P t = P.underlying t := by
  unfold undF Program.underlying
  rw [infoF_eq]
  cases P.info? t with
  | none => rfl
  | some i =>
    obtain ⟨d, _, _, _, _, _, _, _, _, _⟩ := i
    cases d <;> first | rfl | exact congrArg (Option.map (·.desc)) (infoF_eq P _)
noncomputable def aggF (t : TypeId) : Bool := match undF P t with | some (.struct _) | some (.array _ _) => true | _ => false
noncomputable def okF (t : TypeId) : Bool := match undF P t with | some _ => true | none => false
noncomputable def szF (t : TypeId) : Option Nat := (infoF P t).map (·.size)
theorem aggF_eq (t : TypeId) : aggF P t = aggT P t := by unfold aggF aggT; rw [undF_eq]; cases P.underlying t with
  | none => rfl
  | some d => cases d <;> rfl
theorem okF_eq (t : TypeId) : okF P t = okT P t := by unfold okF okT; rw [undF_eq]; cases P.underlying t <;> rfl
theorem szF_eq (t : TypeId) : szF P t = szT P t := by unfold szF szT; rw [infoF_eq]
noncomputable def cellsAt {β : Type} (s : St) (a : Addr) (k : List Value → β) (d : β) : β :=
  Option.rec (motive := fun _ => β) d (fun o => AO.rec (motive := fun _ => β) (fun cs _ _ => Option.rec (motive := fun _ => β) (k cs) (fun _ => d) a.spot) (fun _ => d) (fun cs => Option.rec (motive := fun _ => β) (k cs) (fun _ => d) a.spot) d o) (forceN a.block fun b => (getB b).use s.heap)
theorem cellsAt_cases {β : Type} (s : St) (a : Addr) (k : List Value → β) (d : β) : (∃ cs, getCells s a = some cs ∧ cellsAt s a k d = k cs) ∨ cellsAt s a k d = d := by
  unfold cellsAt getCells
  rw [forceN_eq, getB_eq]
  cases s.heap.get a.block with
  | none => exact .inr rfl
  | some o =>
    cases o with
    | row cs e l => cases a.spot with
      | none => exact .inl ⟨cs, rfl, rfl⟩
      | some _ => exact .inr rfl
    | tab cs => cases a.spot with
      | none => exact .inl ⟨cs, rfl, rfl⟩
      | some _ => exact .inr rfl
    | obj o => exact .inr rfl
    | dead => exact .inr rfl
noncomputable def rowAt {β : Type} (s : St) (a : Addr) (k : List Value → TypeId → Bool → β) (d : β) : β :=
  Option.rec (motive := fun _ => β) d (fun o => AO.rec (motive := fun _ => β) (fun cs e l => Option.rec (motive := fun _ => β) (k cs e l) (fun _ => d) a.spot) (fun _ => d) (fun _ => d) d o) (forceN a.block fun b => (getB b).use s.heap)
theorem rowAt_cases {β : Type} (s : St) (a : Addr) (k : List Value → TypeId → Bool → β) (d : β) : (∃ cs e l, getRow s a = some (cs, e, l) ∧ rowAt s a k d = k cs e l) ∨ rowAt s a k d = d := by
  unfold rowAt getRow
  rw [forceN_eq, getB_eq]
  cases s.heap.get a.block with
  | none => exact .inr rfl
  | some o =>
    cases o with
    | row cs e l => cases a.spot with
      | none => exact .inl ⟨cs, e, l, rfl, rfl⟩
      | some _ => exact .inr rfl
    | tab cs => exact .inr rfl
    | obj o => exact .inr rfl
    | dead => exact .inr rfl
noncomputable def loadB (t : TypeId) : Bx (Value → St → Rs Value) :=
  match aggF P t, okF P t, szF P t with
  | false, true, _ => ⟨fun v s => asPtr v (fun a => cellsAt s a (fun cs => Option.rec (motive := fun _ => Rs Value) (.no 3 0) (fun v => .ok v s) (nth cs a.off)) (doLoad P t v s)) (doLoad P t v s)⟩
  | true, _, some n => ⟨fun v s => asPtr v (fun a => cellsAt s a (fun cs => (fun l => iff' (Nat.beq (lenL l) n) (.ok (.agg ⟨l⟩) s) (.no 1 0)) (takeL n (dropL a.off cs))) (doLoad P t v s)) (doLoad P t v s)⟩
  | _, _, _ => ⟨fun v s => doLoad P t v s⟩
theorem loadB_eq (t : TypeId) (v : Value) (s : St) : (loadB P t).use v s = doLoad P t v s := by
  unfold loadB
  rw [aggF_eq, okF_eq, szF_eq]
  split
  · rename_i h1 h2
    show asPtr v (fun a => cellsAt s a (fun cs => Option.rec (motive := fun _ => Rs Value) (.no 3 0) (fun v => .ok v s) (nth cs a.off)) (doLoad P t v s)) (doLoad P t v s) = _
    rcases asPtr_cases v (fun a => cellsAt s a (fun cs => Option.rec (motive := fun _ => Rs Value) (Rs.no 3 0) (fun v => .ok v s) (nth cs a.off)) (doLoad P t v s)) (doLoad P t v s) with ⟨a, rfl, e⟩ | e
    · rw [e]
      rcases cellsAt_cases s a (fun cs => Option.rec (motive := fun _ => Rs Value) (Rs.no 3 0) (fun v => .ok v s) (nth cs a.off)) (doLoad P t (.pointer (some a)) s) with ⟨cs, hc, e⟩ | e
      · rw [e]
        unfold doLoad
        rw [h1, h2]
        dsimp only
        rw [hc]
        dsimp only [cond_true, cond_false]
        cases nth cs a.off <;> rfl
      · exact e
    · exact e
  · rename_i n h1 h2
    show asPtr v (fun a => cellsAt s a (fun cs => (fun l => iff' (Nat.beq (lenL l) n) (.ok (.agg ⟨l⟩) s) (.no 1 0)) (takeL n (dropL a.off cs))) (doLoad P t v s)) (doLoad P t v s) = _
    rcases asPtr_cases v (fun a => cellsAt s a (fun cs => (fun l => iff' (Nat.beq (lenL l) n) (Rs.ok (.agg ⟨l⟩) s) (.no 1 0)) (takeL n (dropL a.off cs))) (doLoad P t v s)) (doLoad P t v s) with ⟨a, rfl, e⟩ | e
    · rw [e]
      rcases cellsAt_cases s a (fun cs => (fun l => iff' (Nat.beq (lenL l) n) (Rs.ok (.agg ⟨l⟩) s) (.no 1 0)) (takeL n (dropL a.off cs))) (doLoad P t (.pointer (some a)) s) with ⟨cs, hc, e⟩ | e
      · rw [e]
        unfold doLoad
        rw [h1, h2]
        dsimp only
        rw [hc, iff_eq]
        rfl
      · exact e
    · exact e
  · rfl

noncomputable def fieldB (t : TypeId) (f : Nat) : Bx (Value → St → Rs Value) :=
  match undF P t with
  | some (.struct fs) =>
    match nth fs.toList f with
    | none => ⟨fun v s => doFieldAddr P t v f s⟩
    | some fd =>
      match szF P fd.type with
      | none => ⟨fun v s => doFieldAddr P t v f s⟩
      | some n => Bool.rec (motive := fun _ => Bx (Value → St → Rs Value)) ⟨fun v s => doFieldAddr P t v f s⟩
        ⟨fun v s => asPtr v (fun a => Addr.rec (motive := fun _ => Rs Value) (fun b o sp => .ok (.pointer (some ⟨b, Nat.add o fd.offset, sp⟩)) s) a) (doFieldAddr P t v f s)⟩ (Nat.blt 0 n)
  | _ => ⟨fun v s => doFieldAddr P t v f s⟩
theorem fieldB_eq (t : TypeId) (f : Nat) (v : Value) (s : St) : (fieldB P t f).use v s = doFieldAddr P t v f s := by
  unfold fieldB
  simp only [undF_eq, szF_eq]
  split
  · rename_i fs h1
    cases h2 : nth fs.toList f with
    | none => rfl
    | some fd =>
      dsimp only
      cases h3 : szT P fd.type with
      | none => rfl
      | some n =>
        dsimp only
        cases h4 : Nat.blt 0 n with
        | false => rfl
        | true =>
          show asPtr v (fun a => Addr.rec (motive := fun _ => Rs Value) (fun b o sp => .ok (.pointer (some ⟨b, Nat.add o fd.offset, sp⟩)) s) a) (doFieldAddr P t v f s) = _
          rcases asPtr_cases v (fun a => Addr.rec (motive := fun _ => Rs Value) (fun b o sp => .ok (.pointer (some ⟨b, Nat.add o fd.offset, sp⟩)) s) a) (doFieldAddr P t v f s) with ⟨a, rfl, e⟩ | e
          · rw [e]
            unfold doFieldAddr
            rw [h1]
            dsimp only
            rw [h2]
            dsimp only [ofO]
            rw [h3]
            dsimp only
            rw [h4]
            cases a; rfl
          · exact e
  · rfl
noncomputable def indexB (t : TypeId) : Bx (Value → Value → St → Rs Value) :=
  match undF P t with
  | some (.slice e) =>
    match szF P e with
    | none => ⟨fun x i s => doIndexAddr P t x i s⟩
    | some n => ⟨fun x i s => asSl x (fun a len _ => asInt i (fun _ j => Int.rec (motive := fun _ => Rs Value) (fun j => iff' (Nat.blt j len) (Addr.rec (motive := fun _ => Rs Value) (fun b o sp => .ok (.pointer (some ⟨b, Nat.add o (Nat.mul j n), sp⟩)) s) a) (doIndexAddr P t x i s)) (fun _ => doIndexAddr P t x i s) j) (doIndexAddr P t x i s)) (doIndexAddr P t x i s)⟩
  | _ => ⟨fun x i s => doIndexAddr P t x i s⟩
theorem indexB_eq (t : TypeId) (x i : Value) (s : St) : (indexB P t).use x i s = doIndexAddr P t x i s := by
  unfold indexB
  simp only [undF_eq, szF_eq]
  split
  · rename_i e h1
    cases h2 : szT P e with
    | none => rfl
    | some n =>
      show asSl x (fun a len _ => asInt i (fun _ j => Int.rec (motive := fun _ => Rs Value) (fun j => iff' (Nat.blt j len) (Addr.rec (motive := fun _ => Rs Value) (fun b o sp => .ok (.pointer (some ⟨b, Nat.add o (Nat.mul j n), sp⟩)) s) a) (doIndexAddr P t x i s)) (fun _ => doIndexAddr P t x i s) j) (doIndexAddr P t x i s)) (doIndexAddr P t x i s) = _
      rcases asSl_cases x (fun a len _ => asInt i (fun _ j => Int.rec (motive := fun _ => Rs Value) (fun j => iff' (Nat.blt j len) (Addr.rec (motive := fun _ => Rs Value) (fun b o sp => .ok (.pointer (some ⟨b, Nat.add o (Nat.mul j n), sp⟩)) s) a) (doIndexAddr P t x i s)) (fun _ => doIndexAddr P t x i s) j) (doIndexAddr P t x i s)) (doIndexAddr P t x i s) with ⟨a, len, c, rfl, e⟩ | e
      · rw [e]
        rcases asInt_cases i (fun _ j => Int.rec (motive := fun _ => Rs Value) (fun j => iff' (Nat.blt j len) (Addr.rec (motive := fun _ => Rs Value) (fun b o sp => .ok (.pointer (some ⟨b, Nat.add o (Nat.mul j n), sp⟩)) s) a) (doIndexAddr P t (.slice (some a) len c) i s)) (fun _ => doIndexAddr P t (.slice (some a) len c) i s) j) (doIndexAddr P t (.slice (some a) len c) i s) with ⟨k, j, rfl, e⟩ | e
        · rw [e]
          cases j with
          | negSucc j => rfl
          | ofNat j =>
            show iff' (Nat.blt j len) (Addr.rec (motive := fun _ => Rs Value) (fun b o sp => .ok (.pointer (some ⟨b, Nat.add o (Nat.mul j n), sp⟩)) s) a) (doIndexAddr P t (.slice (some a) len c) (.int k (.ofNat j)) s) = _
            rw [iff_eq]
            cases h3 : Nat.blt j len with
            | false => rfl
            | true =>
              unfold doIndexAddr
              rw [h1]
              dsimp only
              rw [h2]
              have hlt : j < len := by have h4 := h3; simp [Nat.blt] at h4; omega
              have : (decide (0 ≤ Int.ofNat j) && decide (Int.ofNat j < (len : Int))) = true := by
                simp only [Bool.and_eq_true, decide_eq_true_eq]
                exact ⟨Int.natCast_nonneg j, by show (j : Int) < (len : Int); omega⟩
              dsimp only [ofO]
              rw [this]
              cases a; rfl
        · exact e
      · exact e
  · rfl
noncomputable def nilV (v : Value) (s : St) : Rs Value :=
  match v with | .pointer (some p) => .ok (.pointer (some p)) s | .func (.func f) b c => .ok (.func (.func f) b c) s | .func (.yield f) b c => .ok (.func (.yield f) b c) s | _ => .no 132 0
noncomputable def nilF (v : Value) (s : St) : Rs Value := asPtr v (fun a => .ok (.pointer (some a)) s) (nilV v s)
theorem nilF_eq (v : Value) (s : St) : nilF v s = nilV v s := by
  rcases asPtr_cases v (fun a => Rs.ok (.pointer (some a)) s) (nilV v s) with ⟨a, rfl, e⟩ | e
  · exact e.trans rfl
  · exact e
noncomputable def unB (op : UnOp) : Bx (Value → St → Rs Value) :=
  match op with
  | .not => ⟨fun v s => asBool v (fun b => .ok (.bool (iff' b false true)) s) (doFlat P v (Op.unary .not v) s)⟩
  | op => ⟨fun v s => doFlat P v (Op.unary op v) s⟩
theorem unB_eq (op : UnOp) (v : Value) (s : St) : (unB P op).use v s = doFlat P v (Op.unary op v) s := by
  cases op
  case not =>
    rcases asBool_cases v (fun b => Rs.ok (.bool (iff' b false true)) s) (doFlat P v (Op.unary .not v) s) with ⟨b, rfl, e⟩ | e
    · refine Eq.trans e ?_
      rw [not_not_eq]; rfl
    · exact e
  all_goals rfl
theorem flat_underlying {α : Type} {t : TypeId} {d : TypeDesc} {f : TypeDesc → Sem α} (h : P.underlying t = some d) : flatRun P (Sem.bind (underlying t) f) = flatRun P (f d) := by
  show flatRun P (Sem.bind (match P.underlying t with | some d => pure d | none => stuck "no such type") f) = _
  rw [h]; rfl
noncomputable def convB (src dst : TypeId) : Bx (Value → St → Rs Value) :=
  match undF P src, undF P dst with
  | some _, some (.int k) => ⟨fun v s => asInt v (fun _ n => wrapF k n fun r => .ok (.int k r) s) (doConvert P src dst v s)⟩
  | _, _ => ⟨fun v s => doConvert P src dst v s⟩
theorem convB_eq (src dst : TypeId) (v : Value) (s : St) : (convB P src dst).use v s = doConvert P src dst v s := by
  unfold convB
  simp only [undF_eq]
  split
  · rename_i u k h1 h2
    rcases asInt_cases v (fun _ n => wrapF k n fun r => Rs.ok (.int k r) s) (doConvert P src dst v s) with ⟨k', n, rfl, e⟩ | e
    · refine Eq.trans e ?_
      rw [wrapF_eq]
      unfold doConvert
      rw [h2]
      dsimp only
      have : flatRun P (convert src dst (.int k' n)) = some (.int k (k.wrap n)) := by
        unfold convert
        exact (flat_underlying P h1).trans ((flat_underlying P h2).trans rfl)
      unfold doFlat
      rw [this]; cases k <;> rfl
    · exact e
  · rfl
noncomputable def boolF {β : Type} (v : Value) (x y d : β) : β := asBool v (fun b => Bool.rec (motive := fun _ => β) y x b) d
theorem boolF_eq {β : Type} (v : Value) (x y d : β) : boolF v x y d = match v with | .bool true => x | .bool false => y | _ => d := by
  cases v with
  | bool b => cases b <;> rfl
  | _ => rfl
noncomputable def lenB (ts : List TypeId) (xs : List Operand) : Bx (Ac → St → Rs Value) :=
  match ts, xs with
  | t :: _, [x] =>
    match undF P t with
    | some (.slice _) => ⟨fun a s => asSl ((evB x).use a) (fun _ n _ => .ok (.int .i64 (.ofNat n)) s) (doLen P ts ((argsB xs).use a) s)⟩
    | _ => ⟨fun a s => doLen P ts ((argsB xs).use a) s⟩
  | _, _ => ⟨fun a s => doLen P ts ((argsB xs).use a) s⟩
theorem lenB_eq (ts : List TypeId) (xs : List Operand) (a : Ac) (s : St) : (lenB P ts xs).use a s = doLen P ts (xs.map (ev a)) s := by
  unfold lenB
  simp only [undF_eq]
  split
  · rename_i t ts x
    split
    · rename_i e h
      rcases asSl_cases ((evB x).use a) (fun _ n _ => Rs.ok (.int .i64 (.ofNat n)) s) (doLen P (t :: ts) ((argsB [x]).use a) s) with ⟨p, n, c, h2, e⟩ | e
      · refine Eq.trans e ?_
        rw [evB_eq] at h2
        unfold doLen
        dsimp only [List.map]
        rw [h2, h]
        rfl
      · refine Eq.trans e ?_
        rw [argsB_eq]
    · rw [Bx.use_mk, argsB_eq]
  · rw [Bx.use_mk, argsB_eq]

/-- Two values that were read: are they the same? -/
noncomputable def sameF (v w : Value) : Bool :=
  asPtr v (fun a => asPtr w (fun b => Addr.rec (motive := fun _ => Bool) (fun ab ao sp => Addr.rec (motive := fun _ => Bool) (fun bb bo sq =>
    Option.rec (motive := fun _ => Bool) (Option.rec (motive := fun _ => Bool) (iff' (Nat.beq ab bb) (Nat.beq ao bo) false) (fun _ => same v w) sq) (fun _ => same v w) sp) b) a) (same v w))
    (intInt v w (fun _ m n => eqF m n) (same v w))
theorem sameF_eq (v w : Value) : sameF v w = same v w := by
  unfold sameF
  rcases asPtr_cases v (fun a => asPtr w (fun b => Addr.rec (motive := fun _ => Bool) (fun ab ao sp => Addr.rec (motive := fun _ => Bool) (fun bb bo sq =>
    Option.rec (motive := fun _ => Bool) (Option.rec (motive := fun _ => Bool) (iff' (Nat.beq ab bb) (Nat.beq ao bo) false) (fun _ => same v w) sq) (fun _ => same v w) sp) b) a) (same v w))
    (intInt v w (fun _ m n => eqF m n) (same v w)) with ⟨a, rfl, e⟩ | e
  · rw [e]
    rcases asPtr_cases w (fun b => Addr.rec (motive := fun _ => Bool) (fun ab ao sp => Addr.rec (motive := fun _ => Bool) (fun bb bo sq =>
    Option.rec (motive := fun _ => Bool) (Option.rec (motive := fun _ => Bool) (iff' (Nat.beq ab bb) (Nat.beq ao bo) false) (fun _ => same (.pointer (some a)) w) sq) (fun _ => same (.pointer (some a)) w) sp) b) a) (same (.pointer (some a)) w) with ⟨b, rfl, e⟩ | e
    · rw [e]
      obtain ⟨ab, ao, sp⟩ := a
      obtain ⟨bb, bo, sq⟩ := b
      cases sp with
      | some _ => rfl
      | none =>
        cases sq with
        | some _ => rfl
        | none =>
          show iff' (Nat.beq ab bb) (Nat.beq ao bo) false = decide (some (Addr.mk ab ao none) = some (Addr.mk bb bo none))
          rw [iff_eq, Bool.eq_iff_iff]
          simp only [decide_eq_true_eq, Option.some.injEq, Addr.mk.injEq, and_true]
          constructor
          · intro h
            cases h1 : Nat.beq ab bb with
            | false => rw [h1] at h; cases h
            | true => rw [h1] at h; exact ⟨Nat.eq_of_beq_eq_true h1, Nat.eq_of_beq_eq_true h⟩
          · rintro ⟨rfl, rfl⟩; simp
    · exact e
  · rw [e]
    rcases intInt_cases v w (fun _ m n => eqF m n) (same v w) with ⟨k, m, n, rfl, rfl, e⟩ | e
    · rw [e, eqF_eq]
      show _ = (decide (k = k) && decide (m = n))
      simp [Bool.beq_eq_decide_eq]
    · exact e
end
section
variable (P : Program) (G : Nat)

/-! ### Operations -/
noncomputable def funcF (f : FuncId) : Option Func := nthC P.funcs.toList f
theorem funcF_eq (f : FuncId) : funcF P f = P.funcs[f]? := by unfold funcF; rw [nthC_eq]; simp
noncomputable def entF (f : FuncId) : Bool := match funcF P f with | some fn => fn.body.isSome && !(fn.name == "runtime.NumGoroutine") | none => false
theorem entF_eq (f : FuncId) : entF P f = entersF P f := by unfold entF entersF; rw [funcF_eq]; cases P.funcs[f]? <;> rfl
noncomputable def callB (o : Oper) (c : Call) : Bx (Ih → Ac → St → Rs Value) :=
  match c.callee with
  | .value (.func f) => Bool.rec (motive := fun _ => Bx (Ih → Ac → St → Rs Value)) ⟨fun _ a s => doExtern P f ((argsB c.args.toList).use a) s⟩ ⟨fun ih a s => ih.call f ((argsB c.args.toList).use a) s⟩ (entF P f)
  | .builtin .len => ⟨fun _ a s => (lenB P c.argTypes.toList c.args.toList).use a s⟩
  | .builtin .append => ⟨fun _ a s => doAppend P G c.argTypes.toList ((argsB c.args.toList).use a) s⟩
  | _ => ⟨fun ih a s => doCall P G ih (ev a) o c s⟩
theorem callB_eq (ih : Ih) (a : Ac) (o : Oper) (c : Call) (s : St) : (callB P G o c).use ih a s = doCall P G ih (ev a) o c s := by
  unfold callB
  split <;> rename_i h
  · rename_i f
    have e : doCall P G ih (ev a) o c s = doCallV P G ih (.func (.func f) #[] #[]) (c.args.toList.map (ev a)) s := by unfold doCall; rw [h]; rfl
    rw [e]
    show _ = bif entersF P f then ih.call f (appL [] (appL (c.args.toList.map (ev a)) [])) s else doExtern P f (appL [] (appL (c.args.toList.map (ev a)) [])) s
    rw [appL_nil, entF_eq]
    cases entersF P f
    · show doExtern P f ((argsB c.args.toList).use a) s = doExtern P f (c.args.toList.map (ev a)) s
      rw [argsB_eq]
    · show ih.call f ((argsB c.args.toList).use a) s = ih.call f (c.args.toList.map (ev a)) s
      rw [argsB_eq]
  · rw [Bx.use_mk]; unfold doCall; rw [h]; dsimp only; rw [lenB_eq]
  · rw [Bx.use_mk]; unfold doCall; rw [h]; dsimp only; rw [argsB_eq]
  · rfl

noncomputable def newRowF (cs : List Value) (e : TypeId) (loose : Bool) (s : St) : Rs Value :=
  St.rec (motive := fun _ => Rs Value) (fun h n => forceN n fun n => .ok (.pointer (some ⟨n, 0, none⟩)) ⟨(setB n).use (.row cs e loose) h, Nat.succ n⟩) s
theorem newRowF_eq (cs : List Value) (e : TypeId) (loose : Bool) (s : St) : newRowF cs e loose s = newRow cs e loose s := by
  cases s with
  | mk h n =>
    show forceN n (fun n => Rs.ok (Value.pointer (some ⟨n, 0, none⟩)) ⟨(setB n).use (.row cs e loose) h, Nat.succ n⟩) = _
    rw [forceN_eq, setB_eq]; rfl
noncomputable def allocB (t : TypeId) : Bx (St → Rs Value) :=
  match zeroT P t with
  | some z => ⟨fun s => newRowF (cellsOf z) t false s⟩
  | none => ⟨fun _ => .no 131 0⟩
theorem allocB_eq (t : TypeId) (s : St) : (allocB P t).use s = ofO (zeroT P t) 131 fun z => newRow (cellsOf z) t false s := by
  unfold allocB
  cases zeroT P t with
  | none => rfl
  | some z => exact newRowF_eq _ _ _ _
/-- One cell stored. -/
noncomputable def storeB (t : TypeId) : Bx (Value → Value → St → Rs Value) :=
  match szF P t with
  | some 1 => ⟨fun p v s => asPtr p (fun a => rowAt s a (fun cs e l => bif cellOk v && Nat.ble G a.block then
      Option.rec (motive := fun _ => Rs Value) (doStore P G t p v s) (fun _ => St.rec (motive := fun _ => Rs Value) (fun h n => forceN a.block fun b => .ok undef ⟨(setB b).use (.row (setL v cs a.off) e l) h, n⟩) s) (nth cs a.off) else doStore P G t p v s) (doStore P G t p v s)) (doStore P G t p v s)⟩
  | _ => ⟨fun p v s => doStore P G t p v s⟩
theorem cellsOf_ok {v : Value} (h : cellOk v = true) : cellsOf v = [v] := by
  cases v <;> first | rfl | cases h
theorem storeB_eq (t : TypeId) (p v : Value) (s : St) : (storeB P G t).use p v s = doStore P G t p v s := by
  unfold storeB
  split
  · rename_i h1
    rw [szF_eq] at h1
    rw [Bx.use_mk]
    rcases asPtr_cases p (fun a => rowAt s a (fun cs e l => bif cellOk v && Nat.ble G a.block then
      Option.rec (motive := fun _ => Rs Value) (doStore P G t p v s) (fun _ => St.rec (motive := fun _ => Rs Value) (fun h n => forceN a.block fun b => .ok undef ⟨(setB b).use (.row (setL v cs a.off) e l) h, n⟩) s) (nth cs a.off) else doStore P G t p v s) (doStore P G t p v s)) (doStore P G t p v s) with ⟨a, rfl, e⟩ | e
    · rw [e]
      rcases rowAt_cases s a (fun cs e l => bif cellOk v && Nat.ble G a.block then
      Option.rec (motive := fun _ => Rs Value) (doStore P G t (.pointer (some a)) v s) (fun _ => St.rec (motive := fun _ => Rs Value) (fun h n => forceN a.block fun b => .ok undef ⟨(setB b).use (.row (setL v cs a.off) e l) h, n⟩) s) (nth cs a.off) else doStore P G t (.pointer (some a)) v s) (doStore P G t (.pointer (some a)) v s) with ⟨cs, e', l, hr, e⟩ | e
      · rw [e]
        cases hc : (cellOk v && Nat.ble G a.block) with
        | false => rfl
        | true =>
          simp only [cond_true]
          simp only [Bool.and_eq_true] at hc
          cases hn : nth cs a.off with
          | none => rfl
          | some u =>
            have hlt : a.off + 1 ≤ cs.length := by
              rw [nth_eq] at hn
              exact (List.getElem?_eq_some_iff.1 hn).1
            unfold doStore
            dsimp only
            rw [hr]
            dsimp only
            rw [h1, cellsOf_ok hc.1]
            dsimp only
            have e1 : ((Nat.ble G a.block && cellsOk [v]) && (Nat.beq (lenL [v]) 1 && Nat.ble (a.off + 1) (lenL cs))) = true := by
              have : cellsOk [v] = true := by show (cellOk v && true) = true; rw [hc.1]; rfl
              rw [hc.2, this, lenL_eq, lenL_eq, Nat.ble_eq_true_of_le hlt]; rfl
            rw [e1]
            cases s with
            | mk h n =>
              show forceN a.block (fun b => Rs.ok undef ⟨(setB b).use (.row (setL v cs a.off) e' l) h, n⟩) = _
              rw [forceN_eq, setB_eq]; rfl
      · exact e
    · exact e
  · rfl
noncomputable def operB (o : Oper) : Bx (Ih → Ac → St → Rs Value) :=
  match o.op with
  | .move x | .assign x => ⟨fun _ a s => .ok ((evB x).use a) s⟩
  | .pick c x y => ⟨fun _ a s => boolF ((evB c).use a) (.ok ((evB x).use a) s) (.ok ((evB y).use a) s) (.no 130 0)⟩
  | .binOp op t x y _ => ⟨fun _ a s => (binB P op t x y).use ((evB x).use a) ((evB y).use a) s⟩
  | .unOp op _ x => ⟨fun _ a s => (unB P op).use ((evB x).use a) s⟩
  | .load t p => ⟨fun _ a s => (loadB P t).use ((evB p).use a) s⟩
  | .store t p v => ⟨fun _ a s => (storeB P G t).use ((evB p).use a) ((evB v).use a) s⟩
  | .alloc t => ⟨fun _ _ s => (allocB P t).use s⟩
  | .box t v => ⟨fun _ a s => newRowF (cellsOf ((evB v).use a)) t false s⟩
  | .fieldAddr t x f => ⟨fun _ a s => (fieldB P t f).use ((evB x).use a) s⟩
  | .indexAddr t x i => ⟨fun _ a s => (indexB P t).use ((evB x).use a) ((evB i).use a) s⟩
  | .nilCheck x => ⟨fun _ a s => nilF ((evB x).use a) s⟩
  | .convert src dst x => ⟨fun _ a s => (convB P src dst).use ((evB x).use a) s⟩
  | .extract x i => ⟨fun _ a s => match (evB x).use a with | .tuple ⟨vs⟩ => ofO (nth vs i) 134 fun v => .ok v s | _ => .no 135 0⟩
  | .call c => callB P G o c
  | _ => ⟨fun ih a s => oper P G ih a o s⟩
theorem operB_eq (ih : Ih) (a : Ac) (o : Oper) (s : St) : (operB P G o).use ih a s = oper P G ih a o s := by
  unfold operB
  split <;> rename_i h
  case h_15 => rw [callB_eq]; unfold oper; rw [h]
  case h_3 =>
    rw [Bx.use_mk, boolF_eq]; unfold oper; rw [h]; simp only [evB_eq]
    generalize ev a _ = u
    cases u with
    | bool b => cases b <;> rfl
    | _ => rfl
  case h_14 =>
    rw [Bx.use_mk]; unfold oper; rw [h]; simp only [evB_eq]
    generalize ev a _ = u
    cases u with
    | tuple vs => cases vs; rfl
    | _ => rfl
  case h_12 =>
    rw [Bx.use_mk, nilF_eq, evB_eq]; unfold oper nilV; rw [h]; dsimp only
    generalize ev a _ = u
    cases u with
    | pointer p => cases p <;> rfl
    | func f b c => cases f <;> rfl
    | _ => rfl
  all_goals first | rfl | (rw [Bx.use_mk]; unfold oper; rw [h]; simp only [evB_eq, binB_eq, unB_eq, loadB_eq, fieldB_eq, indexB_eq, convB_eq, storeB_eq, allocB_eq, newRowF_eq])

def moveOf (o : Oper) : Option Operand := match o.op with | .move x | .assign x => some x | _ => none
theorem move_eq {o : Oper} {x : Operand} (h : moveOf o = some x) {ih : Ih} {a : Ac} {s : St} : oper P G ih a o s = .ok (ev a x) s := by
  unfold moveOf at h
  unfold oper
  split at h
  · rename_i h2; injection h with h; subst h; rw [h2]
  · rename_i h2; injection h with h; subst h; rw [h2]
  · cases h
theorem move_kind {o : Oper} {x : Operand} (h : moveOf o = some x) : opKind P o = 0 := by
  unfold moveOf at h
  unfold opKind
  split at h
  · rename_i h2; rw [h2]
  · rename_i h2; rw [h2]
  · cases h
/-! ### Regions in order -/
noncomputable def opsF (ops l : List Oper) : Bx (Ih → Ac → St → Rs (Ex × Ac)) :=
  List.rec (motive := fun _ => Bx (Ih → Ac → St → Rs (Ex × Ac))) ⟨fun _ a s => .ok (.normal, a) s⟩
    (fun o _ r => Option.rec (motive := fun _ => Bx (Ih → Ac → St → Rs (Ex × Ac)))
      (match moveOf o with
        | some x => ⟨fun ih a s => r.use ih ((putB o.dst).use a ((evB x).use a)) s⟩
        | none => ⟨fun ih a s => thenR ((operB P G o).use ih a s) fun v s => r.use ih ((putB o.dst).use a v) s⟩)
      (fun _ => ⟨fun ih a s => iff' (wants ops a o) (thenR ((operB P G o).use ih a s) fun v s => r.use ih ((putB o.dst).use a v) s) (r.use ih ((putB o.dst).use a undef) s)⟩) o.guard) l
theorem wants_none {ops : List Oper} {a : Ac} {o : Oper} (h : o.guard = none) : wants ops a o = true := by unfold wants; rw [h]
theorem opsF_eq (ih : Ih) (ops : List Oper) : ∀ (l : List Oper) (a : Ac) (s : St), (opsF P G ops l).use ih a s = opsRun P G ih ops l a s
  | [], _, _ => rfl
  | o :: l, a, s => by
    have e : opsRun P G ih ops (o :: l) a s = bif wants ops a o then liftR (oper P G ih a o s) fun v s => opsRun P G ih ops l (put a o.dst v) s else opsRun P G ih ops l (put a o.dst undef) s := rfl
    have e2 : opsF P G ops (o :: l) = Option.rec (motive := fun _ => Bx (Ih → Ac → St → Rs (Ex × Ac)))
      (match moveOf o with
        | some x => ⟨fun ih a s => (opsF P G ops l).use ih ((putB o.dst).use a ((evB x).use a)) s⟩
        | none => ⟨fun ih a s => thenR ((operB P G o).use ih a s) fun v s => (opsF P G ops l).use ih ((putB o.dst).use a v) s⟩)
      (fun _ => ⟨fun ih a s => iff' (wants ops a o) (thenR ((operB P G o).use ih a s) fun v s => (opsF P G ops l).use ih ((putB o.dst).use a v) s) ((opsF P G ops l).use ih ((putB o.dst).use a undef) s)⟩) o.guard := rfl
    rw [e, e2]
    cases hg : o.guard with
    | none =>
      rw [wants_none hg]
      dsimp only
      cases hm : moveOf o with
      | some x =>
        rw [Bx.use_mk, move_eq P G hm]
        simp only [putB_eq, evB_eq, opsF_eq ih ops l, cond_true]
        rfl
      | none =>
        dsimp only
        rw [Bx.use_mk, thenR_eq, operB_eq]
        simp only [putB_eq, opsF_eq ih ops l, cond_true]
    | some g =>
      dsimp only
      rw [Bx.use_mk, iff_eq, thenR_eq, operB_eq]
      simp only [putB_eq, opsF_eq ih ops l]

/-! ### Regions that draw -/
noncomputable def recheckF (ih : Ih) (s : St) (l : List Pend) : Bool :=
  List.rec (motive := fun _ => Bool) true (fun p _ r => Pend.rec (motive := fun _ => Bool) (fun _ o a v =>
    Rs.rec (motive := fun _ => Bool) (fun w _ => iff' (sameF w v) r false) (fun _ _ => false) ((operB P G o).use ih a s)) p) l
theorem recheckF_eq (ih : Ih) (s : St) : ∀ l : List Pend, recheckF P G ih s l = recheck P G ih s l
  | [] => rfl
  | ⟨i, o, a, v⟩ :: l => by
    have e : recheckF P G ih s (⟨i, o, a, v⟩ :: l) = Rs.rec (motive := fun _ => Bool) (fun w _ => iff' (sameF w v) (recheckF P G ih s l) false) (fun _ _ => false) ((operB P G o).use ih a s) := rfl
    have e2 : recheck P G ih s (⟨i, o, a, v⟩ :: l) = match oper P G ih a o s with | .ok w _ => same w v && recheck P G ih s l | .no .. => false := rfl
    rw [e, e2, operB_eq]
    cases oper P G ih a o s with
    | ok w s2 => dsimp only; rw [recheckF_eq ih s l, iff_eq, sameF_eq]; cases same w v <;> rfl
    | no => rfl
noncomputable def quietF (ops : List Oper) (l : List Nat) : Bx (Ih → List Pend → Ac → St → Rs (List Pend × Ac)) :=
  List.rec (motive := fun _ => Bx (Ih → List Pend → Ac → St → Rs (List Pend × Ac))) ⟨fun _ p a s => .ok (p, a) s⟩
    (fun i _ r =>
      match nth ops i with
      | none => ⟨fun _ _ _ _ => .no 139 0⟩
      | some o =>
        match o.guard, opKind P o with
        | none, 0 => (match moveOf o with
          | some x => ⟨fun ih p a s0 => r.use ih p ((putB o.dst).use a ((evB x).use a)) s0⟩
          | none => ⟨fun ih p a s0 => thenR ((operB P G o).use ih a s0) fun v _ => r.use ih p ((putB o.dst).use a v) s0⟩)
        | none, 1 => ⟨fun ih p a s0 => thenR ((operB P G o).use ih a s0) fun v _ => r.use ih (⟨i, o, a, v⟩ :: p) ((putB o.dst).use a v) s0⟩
        | none, _ => ⟨fun ih p a s0 => thenR ((operB P G o).use ih a s0) fun v s => r.use ih (bif Nat.beq (opKind P o) 1 then ⟨i, o, a, v⟩ :: p else p) ((putB o.dst).use a v) (bif Nat.ble (opKind P o) 1 then s0 else s)⟩
        | some _, _ => ⟨fun ih p a s0 => iff' (wants ops a o) (thenR ((operB P G o).use ih a s0) fun v s => r.use ih (bif Nat.beq (opKind P o) 1 then ⟨i, o, a, v⟩ :: p else p) ((putB o.dst).use a v) (bif Nat.ble (opKind P o) 1 then s0 else s)) (r.use ih p ((putB o.dst).use a undef) s0)⟩) l
theorem quietF_eq (ih : Ih) (ops : List Oper) : ∀ (l : List Nat) (p : List Pend) (a : Ac) (s : St), (quietF P G ops l).use ih p a s = quietRun P G ih ops l p a s
  | [], _, _, _ => rfl
  | i :: l, p, a, s => by
    have e : quietRun P G ih ops (i :: l) p a s = match nth ops i with
      | none => .no 139 0
      | some o => bif wants ops a o then liftR (oper P G ih a o s) fun v s' => quietRun P G ih ops l (bif Nat.beq (opKind P o) 1 then ⟨i, o, a, v⟩ :: p else p) (put a o.dst v) (bif Nat.ble (opKind P o) 1 then s else s') else quietRun P G ih ops l p (put a o.dst undef) s := rfl
    have e2 : quietF P G ops (i :: l) = match nth ops i with
      | none => ⟨fun _ _ _ _ => .no 139 0⟩
      | some o =>
        match o.guard, opKind P o with
        | none, 0 => (match moveOf o with
          | some x => ⟨fun ih p a s0 => (quietF P G ops l).use ih p ((putB o.dst).use a ((evB x).use a)) s0⟩
          | none => ⟨fun ih p a s0 => thenR ((operB P G o).use ih a s0) fun v _ => (quietF P G ops l).use ih p ((putB o.dst).use a v) s0⟩)
        | none, 1 => ⟨fun ih p a s0 => thenR ((operB P G o).use ih a s0) fun v _ => (quietF P G ops l).use ih (⟨i, o, a, v⟩ :: p) ((putB o.dst).use a v) s0⟩
        | none, _ => ⟨fun ih p a s0 => thenR ((operB P G o).use ih a s0) fun v s => (quietF P G ops l).use ih (bif Nat.beq (opKind P o) 1 then ⟨i, o, a, v⟩ :: p else p) ((putB o.dst).use a v) (bif Nat.ble (opKind P o) 1 then s0 else s)⟩
        | some _, _ => ⟨fun ih p a s0 => iff' (wants ops a o) (thenR ((operB P G o).use ih a s0) fun v s => (quietF P G ops l).use ih (bif Nat.beq (opKind P o) 1 then ⟨i, o, a, v⟩ :: p else p) ((putB o.dst).use a v) (bif Nat.ble (opKind P o) 1 then s0 else s)) ((quietF P G ops l).use ih p ((putB o.dst).use a undef) s0)⟩ := rfl
    rw [e, e2]
    cases nth ops i with
    | none => rfl
    | some o =>
      dsimp only
      cases hg : o.guard with
      | none =>
        rw [wants_none hg]
        simp only [cond_true]
        split
        · rename_i hk
          cases hm : moveOf o with
          | some x =>
            rw [Bx.use_mk, move_eq P G hm]
            simp only [putB_eq, evB_eq, quietF_eq ih ops l, hk]
            rfl
          | none =>
            dsimp only
            rw [Bx.use_mk, thenR_eq, operB_eq]
            simp only [putB_eq, quietF_eq ih ops l, hk]
            rfl
        · rename_i hk
          rw [Bx.use_mk, thenR_eq, operB_eq]
          simp only [putB_eq, quietF_eq ih ops l, hk]
          rfl
        · rw [Bx.use_mk, thenR_eq, operB_eq]
          simp only [putB_eq, quietF_eq ih ops l]
        · rename_i h1; cases h1
      | some g =>
        dsimp only
        rw [Bx.use_mk, iff_eq, thenR_eq, operB_eq]
        simp only [putB_eq, quietF_eq ih ops l]

noncomputable def stagesF (ops : List Oper) (pre : List Nat) (l : List Stage) : Bx (Ih → List Pend → Ac → St → Rs (Ex × Ac)) :=
  List.rec (motive := fun _ => Bx (Ih → List Pend → Ac → St → Rs (Ex × Ac))) ⟨fun _ _ _ _ => .no 138 0⟩
    (fun g r rr =>
      match g.l with
      | none =>
        (match r with
        | [] => ⟨fun ih p a s => thenR ((quietF P G ops g.qs).use ih p a s) fun q s => iff' (recheckF P G ih s q.1) (.ok (.normal, q.2) s) (.no 140 0)⟩
        | _ => ⟨fun ih p a s => thenR ((quietF P G ops g.qs).use ih p a s) fun q s => iff' (recheckF P G ih s q.1) (.no 138 1) (.no 140 0)⟩)
      | some j =>
        match nth ops j with
        | none => ⟨fun ih p a s => thenR ((quietF P G ops g.qs).use ih p a s) fun q s => iff' (recheckF P G ih s q.1) (.no 138 2) (.no 140 0)⟩
        | some o =>
          match o.guard with
          | none => ⟨fun ih p a s => thenR ((quietF P G ops g.qs).use ih p a s) fun q s => iff' (recheckF P G ih s q.1)
              (thenR ((operB P G o).use ih q.2 s) fun v s => rr.use ih (q.1.filter fun x => !inPre pre x.i j) ((putB o.dst).use q.2 v) s) (.no 140 0)⟩
          | some _ => ⟨fun ih p a s => thenR ((quietF P G ops g.qs).use ih p a s) fun q s => iff' (recheckF P G ih s q.1)
              (iff' (wants ops q.2 o) (thenR ((operB P G o).use ih q.2 s) fun v s => rr.use ih (q.1.filter fun x => !inPre pre x.i j) ((putB o.dst).use q.2 v) s)
                (rr.use ih (q.1.filter fun x => !inPre pre x.i j) ((putB o.dst).use q.2 undef) s)) (.no 140 0)⟩) l
theorem stagesF_eq (ih : Ih) (ops : List Oper) (pre : List Nat) : ∀ (l : List Stage) (p : List Pend) (a : Ac) (s : St), (stagesF P G ops pre l).use ih p a s = stagesRun P G ih ops pre l p a s
  | [], _, _, _ => rfl
  | g :: r, p, a, s => by
    have e : stagesRun P G ih ops pre (g :: r) p a s = liftR (quietRun P G ih ops g.qs p a s) fun q s =>
      bif recheck P G ih s q.1 then
        match g.l with
        | none => (match r with | [] => .ok (.normal, q.2) s | _ => .no 138 1)
        | some j =>
          match nth ops j with
          | none => .no 138 2
          | some o =>
            bif wants ops q.2 o then liftR (oper P G ih q.2 o s) fun v s => stagesRun P G ih ops pre r (q.1.filter fun x => !inPre pre x.i j) (put q.2 o.dst v) s else stagesRun P G ih ops pre r (q.1.filter fun x => !inPre pre x.i j) (put q.2 o.dst undef) s
      else .no 140 0 := rfl
    have e2 : stagesF P G ops pre (g :: r) = match g.l with
      | none =>
        (match (generalizing := false) r with
        | [] => ⟨fun ih p a s => thenR ((quietF P G ops g.qs).use ih p a s) fun q s => iff' (recheckF P G ih s q.1) (.ok (.normal, q.2) s) (.no 140 0)⟩
        | _ => ⟨fun ih p a s => thenR ((quietF P G ops g.qs).use ih p a s) fun q s => iff' (recheckF P G ih s q.1) (.no 138 1) (.no 140 0)⟩)
      | some j =>
        match nth ops j with
        | none => ⟨fun ih p a s => thenR ((quietF P G ops g.qs).use ih p a s) fun q s => iff' (recheckF P G ih s q.1) (.no 138 2) (.no 140 0)⟩
        | some o =>
          match o.guard with
          | none => ⟨fun ih p a s => thenR ((quietF P G ops g.qs).use ih p a s) fun q s => iff' (recheckF P G ih s q.1)
              (thenR ((operB P G o).use ih q.2 s) fun v s => (stagesF P G ops pre r).use ih (q.1.filter fun x => !inPre pre x.i j) ((putB o.dst).use q.2 v) s) (.no 140 0)⟩
          | some _ => ⟨fun ih p a s => thenR ((quietF P G ops g.qs).use ih p a s) fun q s => iff' (recheckF P G ih s q.1)
              (iff' (wants ops q.2 o) (thenR ((operB P G o).use ih q.2 s) fun v s => (stagesF P G ops pre r).use ih (q.1.filter fun x => !inPre pre x.i j) ((putB o.dst).use q.2 v) s)
                ((stagesF P G ops pre r).use ih (q.1.filter fun x => !inPre pre x.i j) ((putB o.dst).use q.2 undef) s)) (.no 140 0)⟩ := rfl
    rw [e, e2]
    cases g.l with
    | none => cases r <;> (dsimp only; rw [Bx.use_mk, thenR_eq, quietF_eq]; simp only [iff_eq, recheckF_eq])
    | some j =>
      dsimp only
      cases nth ops j with
      | none => dsimp only; rw [Bx.use_mk, thenR_eq, quietF_eq]; simp only [iff_eq, recheckF_eq]
      | some o =>
        dsimp only
        cases hg : o.guard with
        | none =>
          dsimp only
          rw [Bx.use_mk, thenR_eq, quietF_eq]
          simp only [iff_eq, recheckF_eq, operB_eq, thenR_eq, putB_eq, stagesF_eq ih ops pre r, wants_none hg, cond_true]
        | some x =>
          dsimp only
          rw [Bx.use_mk, thenR_eq, quietF_eq]
          simp only [iff_eq, recheckF_eq, operB_eq, thenR_eq, putB_eq, stagesF_eq ih ops pre r]

/-! ### Code, calls -/
noncomputable def codeB (c : Code) : Bx (Ih → FuncId → Option Nat → Ac → St → Rs (Ex × Ac)) :=
  match c with
  | .seq x y => ⟨fun ih fn rnd a s => thenR (ih.code fn rnd x a s) fun r s => match r with | (.normal, a) => ih.code fn rnd y a s | r => .ok r s⟩
  | .cond c x y => Bool.rec (motive := fun _ => Bx (Ih → FuncId → Option Nat → Ac → St → Rs (Ex × Ac))) ⟨fun _ _ _ _ _ => .no 151 0⟩
      ⟨fun ih fn rnd a s => boolF ((evB c).use a) (ih.code fn rnd x a s) (ih.code fn rnd y a s) (.no 150 0)⟩ (opFlat G c)
  | .region _ ops draw => Bool.rec (motive := fun _ => Bx (Ih → FuncId → Option Nat → Ac → St → Rs (Ex × Ac))) ⟨fun _ _ _ _ _ => .no 157 0⟩
      (Bool.rec (motive := fun _ => Bx (Ih → FuncId → Option Nat → Ac → St → Rs (Ex × Ac))) ⟨fun ih _ _ a s => (opsF P G ops.toList ops.toList).use ih a s⟩
        (match planF P ops.toList with
          | some pl => ⟨fun ih _ _ a s => (stagesF P G ops.toList (preOf ops.toList) pl).use ih [] a s⟩
          | none => ⟨fun _ _ _ _ _ => .no 156 0⟩) draw) (regOk G ops.toList)
  | .block id c => ⟨fun ih fn rnd a s => thenR (ih.code fn rnd c a s) fun r s => match r with | (.exit id', a) => bif Nat.beq id' id then .ok (.normal, a) s else .ok (.exit id', a) s | r => .ok r s⟩
  | .loop c => ⟨fun ih fn rnd a s => thenR (ih.code fn rnd c a s) fun r s => match r with | (.normal, a) => ih.code fn rnd (.loop c) a s | r => .ok r s⟩
  | .skip => ⟨fun _ _ _ a s => .ok (.normal, a) s⟩
  | .exit id => ⟨fun _ _ _ a s => .ok (.exit id, a) s⟩
  | .ret => ⟨fun _ _ _ a s => .ok (.ret, a) s⟩
  | c => ⟨fun ih fn rnd a s => stepCode P G ih fn rnd c a s⟩
theorem codeB_eq (c : Code) (ih : Ih) (fn : FuncId) (rnd : Option Nat) (a : Ac) (s : St) : (codeB P G c).use ih fn rnd a s = stepCode P G ih fn rnd c a s := by
  cases c with
  | cond c x y =>
    show (Bool.rec (motive := fun _ => Bx (Ih → FuncId → Option Nat → Ac → St → Rs (Ex × Ac))) ⟨fun _ _ _ _ _ => .no 151 0⟩
      ⟨fun ih fn rnd a s => boolF ((evB c).use a) (ih.code fn rnd x a s) (ih.code fn rnd y a s) (.no 150 0)⟩ (opFlat G c)).use ih fn rnd a s = bif opFlat G c then (match ev a c with
      | .bool true => ih.code fn rnd x a s
      | .bool false => ih.code fn rnd y a s
      | _ => .no 150 0) else .no 151 0
    cases opFlat G c with
    | false => rfl
    | true =>
      show boolF ((evB c).use a) (ih.code fn rnd x a s) (ih.code fn rnd y a s) (Rs.no 150 0) = (match ev a c with | .bool true => ih.code fn rnd x a s | .bool false => ih.code fn rnd y a s | _ => Rs.no 150 0)
      rw [boolF_eq, evB_eq]
  | region i ops draw =>
    show (Bool.rec (motive := fun _ => Bx (Ih → FuncId → Option Nat → Ac → St → Rs (Ex × Ac))) ⟨fun _ _ _ _ _ => .no 157 0⟩
      (Bool.rec (motive := fun _ => Bx (Ih → FuncId → Option Nat → Ac → St → Rs (Ex × Ac))) ⟨fun ih _ _ a s => (opsF P G ops.toList ops.toList).use ih a s⟩
        (match planF P ops.toList with
          | some pl => ⟨fun ih _ _ a s => (stagesF P G ops.toList (preOf ops.toList) pl).use ih [] a s⟩
          | none => ⟨fun _ _ _ _ _ => .no 156 0⟩) draw) (regOk G ops.toList)).use ih fn rnd a s = bif regOk G ops.toList then
      (bif draw then ofO (planOf P ops.toList) 156 fun pl => stagesRun P G ih ops.toList (preOf ops.toList) pl [] a s
      else opsRun P G ih ops.toList ops.toList a s) else .no 157 0
    cases regOk G ops.toList with
    | false => rfl
    | true =>
      cases draw with
      | false => exact opsF_eq P G ih _ _ _ _
      | true =>
        dsimp only [cond_true]
        rw [planF_eq]
        cases planOf P ops.toList with
        | none => rfl
        | some pl => exact stagesF_eq P G ih _ _ _ _ _ _
  | seq x y =>
    show (thenR (ih.code fn rnd x a s) fun r s => match r with | (.normal, a) => ih.code fn rnd y a s | r => .ok r s) = liftR (ih.code fn rnd x a s) fun r s => match r with | (.normal, a) => ih.code fn rnd y a s | r => .ok r s
    exact thenR_eq _ _
  | block id c =>
    show (thenR (ih.code fn rnd c a s) fun r s => match r with | (.exit id', a) => bif Nat.beq id' id then .ok (.normal, a) s else .ok (.exit id', a) s | r => .ok r s) = liftR (ih.code fn rnd c a s) fun r s => match r with | (.exit id', a) => bif Nat.beq id' id then .ok (.normal, a) s else .ok (.exit id', a) s | r => .ok r s
    exact thenR_eq _ _
  | loop c =>
    show (thenR (ih.code fn rnd c a s) fun r s => match r with | (.normal, a) => ih.code fn rnd (.loop c) a s | r => .ok r s) = liftR (ih.code fn rnd c a s) fun r s => match r with | (.normal, a) => ih.code fn rnd (.loop c) a s | r => .ok r s
    exact thenR_eq _ _
  | _ => rfl

noncomputable def calledB (f : FuncId) : Bx (Ih → List Value → St → Rs Value) :=
  match funcF P f with
  | none => ⟨fun _ _ _ => .no 160 0⟩
  | some fn =>
    match fn.body with
    | none => ⟨fun _ _ _ => .no 161 f⟩
    | some c => ⟨fun ih args s => Rs.rec (motive := fun _ => Rs Value) (fun r s => match r with
        | (.normal, a) | (.ret, a) => doLeave P G fn a s
        | _ => .no 162 f) (fun a b => .no a (b * 10000 + f)) (ih.code f none c { n := Nat.max fn.ntmps (lenL args), t := treeOf args 0 .nil, d := [] } s)⟩
theorem calledB_eq (f : FuncId) (ih : Ih) (args : List Value) (s : St) : (calledB P G f).use ih args s = stepCall P G ih f args s := by
  unfold calledB stepCall
  rw [funcF_eq]
  cases P.funcs[f]? with
  | none => rfl
  | some fn =>
    dsimp only [ofO]
    cases fn.body with
    | none => rfl
    | some c =>
      dsimp only
      rw [Bx.use_mk]
      cases ih.code f none c { n := Nat.max fn.ntmps (lenL args), t := treeOf args 0 .nil, d := [] } s <;> rfl

variable (K : FuncId → List Value → St → Option (Value × St))
noncomputable def goF (n : Nat) : Ih :=
  Nat.rec (motive := fun _ => Ih) { code := fun _ _ _ _ _ => .no 170 0, call := fun _ _ _ => .no 171 0 }
    (fun _ ih => { code := fun fn rnd c a s => (codeB P G c).use ih fn rnd a s, call := fun f args s => match K f args s with | some r => .ok r.1 r.2 | none => (calledB P G f).use ih args s }) n
theorem goF_eq : ∀ n, goF P G K n = goK P G K n
  | 0 => rfl
  | n + 1 => by
    show Ih.mk _ _ = Ih.mk _ _
    congr 1
    · funext fn rnd c a s
      show (codeB P G c).use (goF P G K n) fn rnd a s = stepCode P G (goK P G K n) fn rnd c a s
      rw [goF_eq n, codeB_eq]
    · funext f args s
      show (match K f args s with | some r => Rs.ok r.1 r.2 | none => (calledB P G f).use (goF P G K n) args s) = (match K f args s with | some r => Rs.ok r.1 r.2 | none => stepCall P G (goK P G K n) f args s)
      rw [goF_eq n, calledB_eq]
end
end Go.Proofs.YtdhkebolenbpiaaGreatDoor.X

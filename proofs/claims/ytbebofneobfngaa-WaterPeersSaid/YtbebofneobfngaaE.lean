/- A feed is taken in. -/
import Derived.Test.YtbebofneobfngaaD
import Derived.Test.YtbebofneobfngaaY
namespace Go.Proofs.Ytbebofneobfngaa
open Go.RowKit
attribute [local go_sem] St.cells St.val Peer.cells

def feedVal (fr to : Int) (ev : Value) (m : St) (rv : Value) : Value := .agg #[.int .i64 fr, .int .i64 to, ev, .int .i64 m.wall, .int .i64 m.logic, .int .i64 m.node, rv]

theorem quiet_eq {P : Program} {f : FuncId} {args : Array Value} {w : World} {n : Nat} {v : Value}
    (h : Calls P f args (w.drewN n) fun e w' => e = .returned v ∧ w.drewN n = w') : Calls P f args (w.drewN n) fun e w'' => e = .returned v ∧ ∃ m, w'' = w.drewN m :=
  h.mono fun _ _ ⟨he, hm⟩ => ⟨he, n, hm.symm⟩

set_option maxHeartbeats 800000 in
theorem take_nil (k fr to : Int) (ev : Value) (m : St) (rv : Value) (w : World) :
    Calls Try.prog 12 #[.pointer none, .int .i64 k, feedVal fr to ev m rv] w fun e w' => e = .returned (.bool false) ∧ Below w.heap.size w w' := by
  unfold feedVal
  go_enter Try.func12, Try.ntmps12
  go_wp2_with fail
  go_quiet ((go_at_call 17; exact quiet_eq (other_nil _ _)))
  go_wp2
  go_ret
  exact ⟨rfl, by repeat (with_reducible first | exact Below.refl _ _ | refine Below.al ?_ _ | refine Below.drew ?_ | refine below_drewN ?_ _)⟩

def headC (self : Int) (pb n : Nat) : List Value := [.int .i64 self, .slice (some ⟨pb, 0, none⟩) n n]
attribute [local go_sem] headC

theorem other_q {b : Bool} {tb pb n : Nat} {self k : Int} {w : World} {q : Nat} (hd : Blk (w.drewN q) tb 52 (headC self pb n)) (ho : otherB self n k = b) :
    Calls Try.prog 17 #[.pointer (some ⟨tb, 0, none⟩), .int .i64 k] (w.drewN q) fun e w'' => e = .returned (.bool b) ∧ ∃ m, w'' = w.drewN m :=
  quiet_eq (by subst ho; exact other_any tb self n n _ k _ (hd.cell 0) (hd.cell 1))
theorem next_q0 {tb pb n : Nat} {self k : Int} {w : World} {q : Nat} (hd : Blk (w.drewN q) tb 52 (headC self pb n)) (ho : otherB self n k = false) :
    Calls Try.prog 11 #[.pointer (some ⟨tb, 0, none⟩), .int .i64 k] (w.drewN q) fun e w'' => e = .returned (.int .i64 0) ∧ ∃ m, w'' = w.drewN m :=
  quiet_eq (next_no tb self n n _ k _ (hd.cell 0) (hd.cell 1) ho)
theorem next_q {tb pb n k : Nat} {self : Int} {w : World} {q : Nat} {A : Option Addr} {m c : Nat} (hd : Blk (w.drewN q) tb 52 (headC self pb n)) (ho : otherB self n k = true) (hk : k < n) (hc : (w.drewN q).cell? ⟨pb, k * 4, none⟩ = some (.slice A m c)) :
    Calls Try.prog 11 #[.pointer (some ⟨tb, 0, none⟩), .int .i64 k] (w.drewN q) fun e w'' => e = .returned (.int .i64 m) ∧ ∃ m, w'' = w.drewN m :=
  quiet_eq (next_yes tb pb self n n k A m c _ (hd.cell 0) (hd.cell 1) ho hk hc)

set_option maxHeartbeats 800000 in
theorem take_other (tb pb n : Nat) (self : Int) (k fr to : Int) (ev : Value) (m : St) (rv : Value) (w : World) (hd : Blk w tb 52 (headC self pb n))
    (ho : otherB self n k = false) :
    Calls Try.prog 12 #[.pointer (some ⟨tb, 0, none⟩), .int .i64 k, feedVal fr to ev m rv] w fun e w' => e = .returned (.bool false) ∧ Below w.heap.size w w' := by
  have HO := Lib.hid ho; clear ho
  unfold feedVal
  go_enter Try.func12, Try.ntmps12
  go_wp2_with fail
  go_quiet ((go_at_call 17; exact other_q (by exact (hd.alloc _).drewN _) HO.out))
  go_wp2
  go_ret
  exact ⟨rfl, by repeat (with_reducible first | exact Below.refl _ _ | refine Below.al ?_ _ | refine Below.drew ?_ | refine below_drewN ?_ _)⟩

set_option maxHeartbeats 800000 in
theorem take_from (tb pb n : Nat) (self : Int) (k : Nat) (A : Option Addr) (q c : Nat) (fr to : Int) (ev : Value) (m : St) (rv : Value) (w : World) (hd : Blk w tb 52 (headC self pb n))
    (ho : otherB self n k = true) (hk : k < n) (hc : w.cell? ⟨pb, k * 4, none⟩ = some (.slice A q c)) (hne : (fr != (q : Int)) = true) :
    Calls Try.prog 12 #[.pointer (some ⟨tb, 0, none⟩), .int .i64 k, feedVal fr to ev m rv] w fun e w' => e = .returned (.bool false) ∧ Below w.heap.size w w' := by
  have HO := Lib.hid ho; clear ho
  have hlt := block_lt_of_cell hc
  unfold feedVal
  go_enter Try.func12, Try.ntmps12
  go_wp2_with fail
  go_quiet (first
    | (go_at_call 17; exact other_q (by exact (hd.alloc _).drewN _) HO.out)
    | (go_at_call 11; exact next_q (A := A) (c := c) (by exact (hd.alloc _).drewN _) HO.out hk (by exact (World.cell?_alloc_lt _ _ _ hlt).trans hc)))
  go_wp2
  go_ret
  exact ⟨rfl, by repeat (with_reducible first | exact Below.refl _ _ | refine Below.al ?_ _ | refine Below.drew ?_ | refine below_drewN ?_ _)⟩

set_option maxHeartbeats 800000 in
theorem take_total (tb pb n : Nat) (self : Int) (k : Nat) (A A' : Option Addr) (q c l c' : Nat) (to : Int) (m : St) (rv : Value) (w : World) (hd : Blk w tb 52 (headC self pb n))
    (ho : otherB self n k = true) (hk : k < n) (hc : w.cell? ⟨pb, k * 4, none⟩ = some (.slice A q c)) (hq : q ≤ 1000000) (hl : l ≤ 1000000) (hto : to < (q : Int) + l) :
    Calls Try.prog 12 #[.pointer (some ⟨tb, 0, none⟩), .int .i64 k, feedVal q to (.slice A' l c') m rv] w fun e w' => e = .returned (.bool false) ∧ Below w.heap.size w w' := by
  have HO := Lib.hid ho; clear ho
  have hlt := block_lt_of_cell hc
  have hto' : decide (to < IntKind.i64.wrap ((q : Int) + l)) = true := by rw [IntWalk.i64_in _ (by omega)]; simpa using hto
  unfold feedVal
  go_enter Try.func12, Try.ntmps12
  go_wp2_with fail
  go_quiet (first
    | (go_at_call 17; exact other_q (by exact (hd.alloc _).drewN _) HO.out)
    | (go_at_call 11; exact next_q (A := A) (c := c) (by exact (hd.alloc _).drewN _) HO.out hk (by exact (World.cell?_alloc_lt _ _ _ hlt).trans hc)))
  go_wp2
  go_ret
  exact ⟨rfl, by repeat (with_reducible first | exact Below.refl _ _ | refine Below.al ?_ _ | refine Below.drew ?_ | refine below_drewN ?_ _)⟩
end Go.Proofs.Ytbebofneobfngaa

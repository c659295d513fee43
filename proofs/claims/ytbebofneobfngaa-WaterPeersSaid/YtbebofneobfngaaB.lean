/- The table of the marks, walked. -/
import Derived.Test.YtbebofneobfngaaA
namespace Go.Proofs.Ytbebofneobfngaa
open Go.RowKit

def otherB (self : Int) (n : Nat) (k : Int) : Bool := decide (1 ≤ k) && (decide (k < n) && !(k == self))


set_option maxHeartbeats 400000 in
theorem other_nil (k : Int) (w : World) : Calls Try.prog 17 #[.pointer none, .int .i64 k] w fun e w' => e = .returned (.bool false) ∧ w = w' := by
  go_enter Try.func17, Try.ntmps17
  go_wp2
  go_ret
  exact ⟨rfl, rfl⟩

set_option maxHeartbeats 400000 in
theorem other_any (tb : Nat) (self : Int) (n cap : Nat) (pa : Option Addr) (k : Int) (w : World) (h0 : w.cell? ⟨tb, 0, none⟩ = some (.int .i64 self)) (h1 : w.cell? ⟨tb, 1, none⟩ = some (.slice pa n cap)) :
    Calls Try.prog 17 #[.pointer (some ⟨tb, 0, none⟩), .int .i64 k] w fun e w' => e = .returned (.bool (otherB self n k)) ∧ w = w' := by
  by_cases a1 : 1 ≤ k
  · by_cases a2 : k < n
    · by_cases a3 : k = self
      · have e3 : (k == self) = true := by simp [a3]
        have HH := Lib.hid a3; clear a3
        have e4 : (k != self) = false := by simp [HH.out]
        go_enter Try.func17, Try.ntmps17
        go_wp2
        go_ret
        exact ⟨ret_bool (by simp [otherB, a1, a2, e3]), rfl⟩
      · have e3 : (k == self) = false := by simp [a3]
        have e4 : (k != self) = true := by simp [a3]
        clear a3
        go_enter Try.func17, Try.ntmps17
        go_wp2
        go_ret
        exact ⟨ret_bool (by simp [otherB, a1, a2, e3]), rfl⟩
    · have e2 : decide (k < (n : Int)) = false := by simp; omega
      go_enter Try.func17, Try.ntmps17
      go_wp2
      go_ret
      exact ⟨ret_bool (by simp [otherB, e2]), rfl⟩
  · have e1 : decide (1 ≤ k) = false := by simp; omega
    go_enter Try.func17, Try.ntmps17
    go_wp2
    go_ret
    exact ⟨ret_bool (by simp [otherB, e1]), rfl⟩

set_option maxHeartbeats 400000 in
theorem next_no (tb : Nat) (self : Int) (n cap : Nat) (pa : Option Addr) (k : Int) (w : World) (h0 : w.cell? ⟨tb, 0, none⟩ = some (.int .i64 self)) (h1 : w.cell? ⟨tb, 1, none⟩ = some (.slice pa n cap))
    (ho : otherB self n k = false) :
    Calls Try.prog 11 #[.pointer (some ⟨tb, 0, none⟩), .int .i64 k] w fun e w' => e = .returned (.int .i64 0) ∧ w = w' := by
  go_enter Try.func11, Try.ntmps11
  go_wp2_with (go_at_call 17; refine (other_any _ _ _ _ _ _ _ h0 h1).mono ?_; rintro e w' ⟨rfl, rfl⟩)
  go_ret
  exact ⟨rfl, rfl⟩
set_option maxHeartbeats 400000 in
theorem next_nil (k : Int) (w : World) :
    Calls Try.prog 11 #[.pointer none, .int .i64 k] w fun e w' => e = .returned (.int .i64 0) ∧ w = w' := by
  go_enter Try.func11, Try.ntmps11
  go_wp2_with (go_at_call 17; refine (other_nil _ _).mono ?_; rintro e w' ⟨rfl, rfl⟩)
  go_ret
  exact ⟨rfl, rfl⟩
set_option maxHeartbeats 400000 in
theorem next_yes (tb pb : Nat) (self : Int) (n cap : Nat) (k : Nat) (A : Option Addr) (m c : Nat) (w : World) (h0 : w.cell? ⟨tb, 0, none⟩ = some (.int .i64 self)) (h1 : w.cell? ⟨tb, 1, none⟩ = some (.slice (some ⟨pb, 0, none⟩) n cap))
    (ho : otherB self n k = true) (hk : k < n) (hc : w.cell? ⟨pb, k * 4, none⟩ = some (.slice A m c)) :
    Calls Try.prog 11 #[.pointer (some ⟨tb, 0, none⟩), .int .i64 k] w fun e w' => e = .returned (.int .i64 m) ∧ w = w' := by
  have hk' : (k : Int) < n := by omega
  go_enter Try.func11, Try.ntmps11
  go_wp2_with (go_at_call 17; refine (other_any _ _ _ _ _ _ _ h0 h1).mono ?_; rintro e w' ⟨rfl, rfl⟩)
  go_ret
  exact ⟨rfl, rfl⟩
end Go.Proofs.Ytbebofneobfngaa

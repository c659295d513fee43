/- Nothing is no table: the law's walk. -/
import Derived.Test.YtbebofneobfngaaI
namespace Go.Proofs.Ytbebofneobfngaa
open Go.RowKit
attribute [local go_sem] St.cells St.val Peer.cells headC

set_option maxHeartbeats 400000 in
theorem logs_nil (w : World) : Calls Try.prog 14 #[.pointer none] w fun e w' => e = .returned (.slice none 0 0) ∧ w = w' := by
  go_enter Try.func14, Try.ntmps14
  go_wp2
  go_ret
  exact ⟨rfl, rfl⟩

/-- The four answers of no table, one behind the other, and those on the numbers. -/
theorem newB_cases (self nodes : Int) : (newB self nodes = true ∧ 1 ≤ nodes ∧ nodes ≤ 5 ∧ 1 ≤ self ∧ self ≤ nodes) ∨ (newB self nodes = false ∧ (nodes < 1 ∨ (1 ≤ nodes ∧ 5 < nodes) ∨ (1 ≤ nodes ∧ nodes ≤ 5 ∧ self < 1) ∨ (1 ≤ nodes ∧ nodes ≤ 5 ∧ 1 ≤ self ∧ nodes < self))) := by
  by_cases h : 1 ≤ nodes ∧ nodes ≤ 5 ∧ 1 ≤ self ∧ self ≤ nodes
  · exact .inl ⟨by simp [newB]; omega, h⟩
  · exact .inr ⟨by
      cases hb : newB self nodes with
      | false => rfl
      | true => simp [newB] at hb; omega, by omega⟩

set_option maxHeartbeats 1600000 in
theorem nothing_yes (self : Int) (n : Nat) (w : World) (hb : newB self n = true) (a1 : 1 ≤ (n : Int)) (a2 : (n : Int) ≤ 5) (a3 : 1 ≤ self) (a4 : self ≤ n) :
    Calls Try.prog 5 #[.int .i64 self, .int .i64 n] w fun e w' => e = .returned (.bool true) ∧ Below w.heap.size w w' := by
  go_enter Try.func5, Try.ntmps5
  go_wp2_with fail
  refine (new_yes self n w hb).mono ?_
  rintro e w1 ⟨rfl, hT1, hb1⟩
  go_wp2_with fail
  refine (next_nil _ _).mono ?_
  rintro e w' ⟨rfl, rfl⟩
  go_wp2_with fail
  refine (take_nil 2 0 0 (.slice none 0 0) ⟨0, 0, 0⟩ (.slice none 0 0) _).mono ?_
  rintro e w2 ⟨rfl, hb2⟩
  go_wp2_with fail
  refine (water_nil ⟨5, 0, 0⟩ _).mono ?_
  rintro e w3 ⟨rfl, hb3⟩
  go_wp2_with fail
  refine (logs_nil _).mono ?_
  rintro e w' ⟨rfl, rfl⟩
  go_wp2_with fail
  refine (awake_any _).mono ?_
  rintro e w4 ⟨rfl, hb4⟩
  go_wp2
  go_ret
  exact ⟨rfl, ((hb1.tr hb2).tr hb3).tr hb4⟩

set_option maxHeartbeats 3200000 in
theorem nothing_no (self nodes : Int) (w : World) (hb : newB self nodes = false) (a : nodes < 1 ∨ (1 ≤ nodes ∧ 5 < nodes) ∨ (1 ≤ nodes ∧ nodes ≤ 5 ∧ self < 1) ∨ (1 ≤ nodes ∧ nodes ≤ 5 ∧ 1 ≤ self ∧ nodes < self)) :
    Calls Try.prog 5 #[.int .i64 self, .int .i64 nodes] w fun e w' => e = .returned (.bool true) ∧ Below w.heap.size w w' := by
  have HB := Lib.hid hb; clear hb
  rcases a with a1 | ⟨a1, a2⟩ | ⟨a1, a2, a3⟩ | ⟨a1, a2, a3, a4⟩
  all_goals
    go_enter Try.func5, Try.ntmps5
    go_wp2_with fail
    refine (new_no self nodes w HB.out).mono ?_
    rintro e w' ⟨rfl, rfl⟩
    go_wp2_with fail
    refine (next_nil _ _).mono ?_
    rintro e w' ⟨rfl, rfl⟩
    go_wp2_with fail
    refine (take_nil 2 0 0 (.slice none 0 0) ⟨0, 0, 0⟩ (.slice none 0 0) _).mono ?_
    rintro e w2 ⟨rfl, hb2⟩
    go_wp2_with fail
    refine (water_nil ⟨5, 0, 0⟩ _).mono ?_
    rintro e w3 ⟨rfl, hb3⟩
    go_wp2_with fail
    refine (logs_nil _).mono ?_
    rintro e w' ⟨rfl, rfl⟩
    go_wp2_with fail
    refine (awake_any _).mono ?_
    rintro e w4 ⟨rfl, hb4⟩
    go_wp2
    go_ret
    refine ⟨?_, (hb2.tr hb3).tr hb4⟩
    first | rfl | exact ret_bool (by simp; omega)

theorem nothing_any (self nodes : Int) (w : World) :
    Calls Try.prog 5 #[.int .i64 self, .int .i64 nodes] w fun e w' => e = .returned (.bool true) ∧ Below w.heap.size w w' := by
  rcases newB_cases self nodes with ⟨hb, a1, a2, a3, a4⟩ | ⟨hb, a⟩
  · obtain ⟨n, rfl⟩ := Int.eq_ofNat_of_zero_le (show 0 ≤ nodes by omega)
    exact nothing_yes self n w hb a1 a2 a3 a4
  · exact nothing_no self nodes w hb a
end Go.Proofs.Ytbebofneobfngaa

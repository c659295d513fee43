/- The reference's order; what the document fixes. -/
import Derived.Test.YtbebofneobfngaaH
namespace Go.Proofs.Ytbebofneobfngaa
open Go.RowKit
attribute [local go_sem] St.cells St.val Peer.cells headC

def lessB (a b : St) : Bool := if a.wall = b.wall then (if a.logic = b.logic then decide (a.node < b.node) else decide (a.logic < b.logic)) else decide (a.wall < b.wall)

set_option maxHeartbeats 400000 in
theorem less_any (a b : St) (w : World) : Calls Try.prog 13 #[a.val, b.val] w fun e w' => e = .returned (.bool (lessB a b)) ∧ Below w.heap.size w w' := by
  by_cases h1 : a.wall = b.wall
  · have e1 : (a.wall != b.wall) = false := by simp [h1]
    by_cases h2 : a.logic = b.logic
    · have e2 : (a.logic != b.logic) = false := by simp [h2]
      have H := Lib.hid (And.intro h1 h2); clear h1 h2
      go_enter Try.func13, Try.ntmps13
      go_wp2
      go_ret
      exact ⟨ret_bool (by unfold lessB; rw [if_pos H.out.1, if_pos H.out.2]), ((Below.refl _ _).al _).al _⟩
    · have e2 : (a.logic != b.logic) = true := by simp [h2]
      have H := Lib.hid (And.intro h1 h2); clear h1 h2
      go_enter Try.func13, Try.ntmps13
      go_wp2
      go_ret
      exact ⟨ret_bool (by unfold lessB; rw [if_pos H.out.1, if_neg H.out.2]), ((Below.refl _ _).al _).al _⟩
  · have e1 : (a.wall != b.wall) = true := by simp [h1]
    have H := Lib.hid h1; clear h1
    go_enter Try.func13, Try.ntmps13
    go_wp2
    go_ret
    exact ⟨ret_bool (by unfold lessB; rw [if_neg H.out]), ((Below.refl _ _).al _).al _⟩

theorem water0 : waterT (tab0 1 2) ⟨9, 0, 0⟩ = ⟨0, 0, 0⟩ := by rfl
theorem water5 (ev : Value) : waterT ((tab0 1 2).put 2 ⟨ev, 0, ⟨5, 0, 0⟩⟩) ⟨9, 0, 0⟩ = ⟨5, 0, 0⟩ := by rfl

set_option maxHeartbeats 1600000 in
theorem awake_any (w : World) : Calls Try.prog 8 #[] w fun e w' => e = .returned (.bool true) ∧ Below w.heap.size w w' := by
  go_enter Try.func8, Try.ntmps8
  go_wp2_with fail
  refine (new_yes 1 2 w (by rfl)).mono ?_
  rintro e w1 ⟨rfl, hT1, hb1⟩
  go_wp2_with fail
  have C := water_any _ _ _ (tab0 1 2) ⟨9, 0, 0⟩ w1 hT1 (by rfl)
  rw [water0] at C
  refine C.mono ?_
  clear C
  rintro e w2 ⟨rfl, hb2⟩
  have hT2 := hT1.ext hb2
  go_wp2_with fail
  have C := take_yes w.heap.size (w.heap.size + 1) w.heap.size (tab0 1 2) 2 ⟨.slice none 0 0, 0, ⟨0, 0, 0⟩⟩ none 0 0 [] 0 ⟨5, 0, 0⟩ (.slice none 0 0) w2 hT2 rfl rfl ⟨by simp, fun h => absurd h (by omega)⟩ (by simp) (by simp) (by simp) (by have := hb1.size; have := hb2.size; omega)
  refine C.mono ?_
  clear C
  rintro e w3 ⟨rfl, ev', hT3, hb3, _⟩
  have hT4 : TabAt w3 w.heap.size (w.heap.size + 1) w.heap.size ((tab0 1 2).put 2 ⟨ev', 0, ⟨5, 0, 0⟩⟩) := hT3
  clear hT3
  go_wp2_with fail
  have C := water_any _ _ _ _ ⟨9, 0, 0⟩ w3 hT4 (by rfl)
  rw [water5 ev'] at C
  refine C.mono ?_
  clear C
  rintro e w4 ⟨rfl, hb4⟩
  go_wp2
  go_ret
  exact ⟨rfl, ((hb1.tr hb2).trans hb3).tr hb4⟩
end Go.Proofs.Ytbebofneobfngaa

/- The mark of all rises: the law's walk, for all numbers of nodes. -/
import Derived.Test.YtbebofneobfngaaM
namespace Go.Proofs.Ytbebofneobfngaa
open Go.RowKit
attribute [local go_sem] St.cells St.val Peer.cells headC

set_option maxHeartbeats 1600000 in
theorem rises_off (a0 : Int) (hn : a0 < 2 ∨ 5 < a0) (ss : List Stp) (A : Option Addr) (c : Nat) (own : St) (w : World) (hl : ss.length ≤ 9223372036854775807) (hs : StpsAt w w.heap.size A ss) :
    Calls Try.prog 3 #[.int .i64 a0, .slice A ss.length c, own.val] w fun e w' => e = .returned (.bool true) ∧ Below w.heap.size w w' := by
  have HS := Lib.hid hs; clear hs
  have go : ∀ (h2 : a0 < 2 ∨ 5 < a0 ∧ ¬ a0 < 2), Calls Try.prog 3 #[.int .i64 a0, .slice A ss.length c, own.val] w fun e w' => e = .returned (.bool true) ∧ Below w.heap.size w w' := by
    intro h2
    rcases h2 with h2 | ⟨h2, h3⟩ <;>
    · go_enter Try.func3, Try.ntmps3
      go_wp2_with fail
      have C := small_any ss A c w.heap.size (w.alloc (.cells #[.int .i64 own.wall, .int .i64 own.logic, .int .i64 own.node] 24)) (by simp) hl (fun h0 => by
        obtain ⟨b, o, e, h⟩ := HS.out h0
        exact ⟨b, o, e, fun i s hi => (h i s hi).below ((Below.refl _ _).al _)⟩)
      refine C.mono ?_
      clear C
      rintro e w1 ⟨⟨r, rfl, hr⟩, hb1⟩
      have hb1' := ((Below.refl w.heap.size w).al (.cells #[.int .i64 own.wall, .int .i64 own.logic, .int .i64 own.node] 24)).tr hb1
      clear hr
      cases r <;>
      · go_wp2_with fail
        refine (awake_any _).mono ?_
        rintro e w2 ⟨rfl, hb2⟩
        go_wp2
        go_ret
        exact ⟨rfl, hb1'.tr hb2⟩
  exact go (by omega)

theorem rises_any (a0 : Int) (ss : List Stp) (A : Option Addr) (c : Nat) (own : St) (w : World) (hl : ss.length ≤ 9223372036854775807) (hs : StpsAt w w.heap.size A ss) :
    Calls Try.prog 3 #[.int .i64 a0, .slice A ss.length c, own.val] w fun e w' => e = .returned (.bool true) ∧ Below w.heap.size w w' := by
  by_cases hn : a0 < 2 ∨ 5 < a0
  · exact rises_off a0 hn ss A c own w hl hs
  · obtain ⟨n, rfl⟩ := Int.eq_ofNat_of_zero_le (show 0 ≤ a0 by omega)
    exact rises_go n (by omega) ss A c own w hl hs
end Go.Proofs.Ytbebofneobfngaa

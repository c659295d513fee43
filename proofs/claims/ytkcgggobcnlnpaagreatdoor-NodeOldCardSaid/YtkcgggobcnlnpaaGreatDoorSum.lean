/- frame.Sum: some number. -/
import Derived.Test.YtkcgggobcnlnpaaGreatDoorKmt
import Derived.Lib.Hide
import Derived.WalkKit
import Derived.WalkSpells
import Derived.ProofKit
import Derived.Laws.Closers25b
namespace Go.Proofs.YtkcgggobcnlnpaaGreatDoor
open Go.RowKit
set_option maxRecDepth 20000 in
set_option maxHeartbeats 1600000 in
theorem sum_any (bk o n c : Nat) (w : World) (hn : n ≤ 140737488355328) (h : ∀ j, j < n → ∃ x : Nat, x < 256 ∧ w.cell? ⟨bk, o + j, none⟩ = some (.int .u8 x)) :
    Calls Tryz.prog 493 #[.slice (some ⟨bk, o, none⟩) n c] w fun e w' => (∃ x : Nat, x < 4294967296 ∧ e = .returned (.int .u32 x)) ∧ w' = w := by
  have H := Lib.hid h
  clear h
  go_enter Tryz.func493, Tryz.ntmps493
  go_wp2_with fail
  go_loop [3, 9] (fun v i => ∃ (k : Nat) (x : Int), k ≤ n ∧ i = .int .i64 k ∧ v = .int .u32 x ∧ 0 ≤ x ∧ x < 4294967296) (fun _ i => n - (intOf i).toNat)
  case atStart => exact ⟨0, 4294967295, Nat.zero_le _, rfl, rfl, by decide, by decide⟩
  case round =>
    obtain ⟨k, x, hk, rfl, rfl, hx0, hx1⟩ := hrel
    by_cases hlt : k < n
    · obtain ⟨b, hb, hcell⟩ := H.out k hlt
      go_wp2_with fail
      go_loop [3, 17] (fun v i => ∃ (m : Nat) (y : Int), m ≤ 8 ∧ i = .int .i64 m ∧ v = .int .u32 y ∧ 0 ≤ y ∧ y < 4294967296) (fun _ i => 8 - (intOf i).toNat)
      case atStart => exact ⟨0, _, Nat.zero_le _, rfl, rfl, bits_lo_u32 _ _ _, by have := bits_hi_u32 .xor x b; omega⟩
      case round =>
        obtain ⟨m, y, hm, rfl, rfl, hy0, hy1⟩ := hrel
        by_cases hlt2 : m < 8
        · go_wp2_with fail
          all_goals
            go_round
            case rel => exact ⟨m + 1, _, by omega, by go_num, rfl, by first | exact bits_lo_u32 _ _ _ | omega, by first | omega | (have := bits_hi_u32 .xor (y / 2) 3988292384; omega)⟩
            case measure => simp [intOf]; omega
        · go_wp2_with fail
          go_round
          case rel => exact ⟨k + 1, y, by omega, by go_num, rfl, hy0, hy1⟩
          case measure => simp [intOf]; omega
    · go_wp2_with fail
      go_ret
      have g0 := bits_lo_u32 .xor IntKind.u32.max x
      have g1 := bits_hi_u32 .xor IntKind.u32.max x
      refine ⟨⟨(bits .xor .u32 IntKind.u32.max x).toNat, by omega, ?_⟩, rfl⟩
      exact congrArg (fun z => Ending.returned (Value.int .u32 z)) (show bits .xor .u32 IntKind.u32.max x = _ by omega)
end Go.Proofs.YtkcgggobcnlnpaaGreatDoor

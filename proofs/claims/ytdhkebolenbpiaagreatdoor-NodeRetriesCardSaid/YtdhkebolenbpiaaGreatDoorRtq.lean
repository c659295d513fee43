/- NodeRetries: the runs for keys of 81 to 85 bytes. -/
import Derived.Test.YtdhkebolenbpiaaGreatDoorRd
namespace Go.Proofs.YtdhkebolenbpiaaGreatDoor.X
open Go.RowKit S
theorem rt81_a : rtA 81 = true := by kernel_rfl
theorem rt81_b : rtB 81 = true := by kernel_rfl
theorem rt81_1 : rtT 81 1 = true := by kernel_rfl
theorem rt81_2 : rtT 81 2 = true := by kernel_rfl
theorem rt81_3 : rtT 81 3 = true := by kernel_rfl
theorem rt81_4 : rtT 81 4 = true := by kernel_rfl
theorem rt81_5 : rtT 81 5 = true := by kernel_rfl
theorem rt82_a : rtA 82 = true := by kernel_rfl
theorem rt82_b : rtB 82 = true := by kernel_rfl
theorem rt82_1 : rtT 82 1 = true := by kernel_rfl
theorem rt82_2 : rtT 82 2 = true := by kernel_rfl
theorem rt82_3 : rtT 82 3 = true := by kernel_rfl
theorem rt82_4 : rtT 82 4 = true := by kernel_rfl
theorem rt82_5 : rtT 82 5 = true := by kernel_rfl
theorem rt83_a : rtA 83 = true := by kernel_rfl
theorem rt83_b : rtB 83 = true := by kernel_rfl
theorem rt83_1 : rtT 83 1 = true := by kernel_rfl
theorem rt83_2 : rtT 83 2 = true := by kernel_rfl
theorem rt83_3 : rtT 83 3 = true := by kernel_rfl
theorem rt83_4 : rtT 83 4 = true := by kernel_rfl
theorem rt83_5 : rtT 83 5 = true := by kernel_rfl
theorem rt84_a : rtA 84 = true := by kernel_rfl
theorem rt84_b : rtB 84 = true := by kernel_rfl
theorem rt84_1 : rtT 84 1 = true := by kernel_rfl
theorem rt84_2 : rtT 84 2 = true := by kernel_rfl
theorem rt84_3 : rtT 84 3 = true := by kernel_rfl
theorem rt84_4 : rtT 84 4 = true := by kernel_rfl
theorem rt84_5 : rtT 84 5 = true := by kernel_rfl
theorem rt85_a : rtA 85 = true := by kernel_rfl
theorem rt85_b : rtB 85 = true := by kernel_rfl
theorem rt85_1 : rtT 85 1 = true := by kernel_rfl
theorem rt85_2 : rtT 85 2 = true := by kernel_rfl
theorem rt85_3 : rtT 85 3 = true := by kernel_rfl
theorem rt85_4 : rtT 85 4 = true := by kernel_rfl
theorem rt85_5 : rtT 85 5 = true := by kernel_rfl
theorem Rtq_ok (L : Nat) (h1 : 81 ≤ L) (h2 : L ≤ 85) : RtOk L := by
  obtain rfl | rfl | rfl | rfl | rfl : L = 81 ∨ L = 82 ∨ L = 83 ∨ L = 84 ∨ L = 85 := by omega
  · exact .of rt81_a rt81_b rt81_1 rt81_2 rt81_3 rt81_4 rt81_5
  · exact .of rt82_a rt82_b rt82_1 rt82_2 rt82_3 rt82_4 rt82_5
  · exact .of rt83_a rt83_b rt83_1 rt83_2 rt83_3 rt83_4 rt83_5
  · exact .of rt84_a rt84_b rt84_1 rt84_2 rt84_3 rt84_4 rt84_5
  · exact .of rt85_a rt85_b rt85_1 rt85_2 rt85_3 rt85_4 rt85_5
end Go.Proofs.YtdhkebolenbpiaaGreatDoor.X

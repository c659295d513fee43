/- NodeRetries: the runs for keys of 26 to 30 bytes. -/
import Derived.Test.YtdhkebolenbpiaaGreatDoorRd
namespace Go.Proofs.YtdhkebolenbpiaaGreatDoor.X
open Go.RowKit S
theorem rt26_a : rtA 26 = true := by kernel_rfl
theorem rt26_b : rtB 26 = true := by kernel_rfl
theorem rt26_1 : rtT 26 1 = true := by kernel_rfl
theorem rt26_2 : rtT 26 2 = true := by kernel_rfl
theorem rt26_3 : rtT 26 3 = true := by kernel_rfl
theorem rt26_4 : rtT 26 4 = true := by kernel_rfl
theorem rt26_5 : rtT 26 5 = true := by kernel_rfl
theorem rt27_a : rtA 27 = true := by kernel_rfl
theorem rt27_b : rtB 27 = true := by kernel_rfl
theorem rt27_1 : rtT 27 1 = true := by kernel_rfl
theorem rt27_2 : rtT 27 2 = true := by kernel_rfl
theorem rt27_3 : rtT 27 3 = true := by kernel_rfl
theorem rt27_4 : rtT 27 4 = true := by kernel_rfl
theorem rt27_5 : rtT 27 5 = true := by kernel_rfl
theorem rt28_a : rtA 28 = true := by kernel_rfl
theorem rt28_b : rtB 28 = true := by kernel_rfl
theorem rt28_1 : rtT 28 1 = true := by kernel_rfl
theorem rt28_2 : rtT 28 2 = true := by kernel_rfl
theorem rt28_3 : rtT 28 3 = true := by kernel_rfl
theorem rt28_4 : rtT 28 4 = true := by kernel_rfl
theorem rt28_5 : rtT 28 5 = true := by kernel_rfl
theorem rt29_a : rtA 29 = true := by kernel_rfl
theorem rt29_b : rtB 29 = true := by kernel_rfl
theorem rt29_1 : rtT 29 1 = true := by kernel_rfl
theorem rt29_2 : rtT 29 2 = true := by kernel_rfl
theorem rt29_3 : rtT 29 3 = true := by kernel_rfl
theorem rt29_4 : rtT 29 4 = true := by kernel_rfl
theorem rt29_5 : rtT 29 5 = true := by kernel_rfl
theorem rt30_a : rtA 30 = true := by kernel_rfl
theorem rt30_b : rtB 30 = true := by kernel_rfl
theorem rt30_1 : rtT 30 1 = true := by kernel_rfl
theorem rt30_2 : rtT 30 2 = true := by kernel_rfl
theorem rt30_3 : rtT 30 3 = true := by kernel_rfl
theorem rt30_4 : rtT 30 4 = true := by kernel_rfl
theorem rt30_5 : rtT 30 5 = true := by kernel_rfl
theorem Rtf_ok (L : Nat) (h1 : 26 ≤ L) (h2 : L ≤ 30) : RtOk L := by
  obtain rfl | rfl | rfl | rfl | rfl : L = 26 ∨ L = 27 ∨ L = 28 ∨ L = 29 ∨ L = 30 := by omega
  · exact .of rt26_a rt26_b rt26_1 rt26_2 rt26_3 rt26_4 rt26_5
  · exact .of rt27_a rt27_b rt27_1 rt27_2 rt27_3 rt27_4 rt27_5
  · exact .of rt28_a rt28_b rt28_1 rt28_2 rt28_3 rt28_4 rt28_5
  · exact .of rt29_a rt29_b rt29_1 rt29_2 rt29_3 rt29_4 rt29_5
  · exact .of rt30_a rt30_b rt30_1 rt30_2 rt30_3 rt30_4 rt30_5
end Go.Proofs.YtdhkebolenbpiaaGreatDoor.X

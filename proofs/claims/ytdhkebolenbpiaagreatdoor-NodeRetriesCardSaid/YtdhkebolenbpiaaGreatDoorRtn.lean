/- NodeRetries: the runs for keys of 66 to 70 bytes. -/
import Derived.Test.YtdhkebolenbpiaaGreatDoorRd
namespace Go.Proofs.YtdhkebolenbpiaaGreatDoor.X
open Go.RowKit S
theorem rt66_a : rtA 66 = true := by kernel_rfl
theorem rt66_b : rtB 66 = true := by kernel_rfl
theorem rt66_1 : rtT 66 1 = true := by kernel_rfl
theorem rt66_2 : rtT 66 2 = true := by kernel_rfl
theorem rt66_3 : rtT 66 3 = true := by kernel_rfl
theorem rt66_4 : rtT 66 4 = true := by kernel_rfl
theorem rt66_5 : rtT 66 5 = true := by kernel_rfl
theorem rt67_a : rtA 67 = true := by kernel_rfl
theorem rt67_b : rtB 67 = true := by kernel_rfl
theorem rt67_1 : rtT 67 1 = true := by kernel_rfl
theorem rt67_2 : rtT 67 2 = true := by kernel_rfl
theorem rt67_3 : rtT 67 3 = true := by kernel_rfl
theorem rt67_4 : rtT 67 4 = true := by kernel_rfl
theorem rt67_5 : rtT 67 5 = true := by kernel_rfl
theorem rt68_a : rtA 68 = true := by kernel_rfl
theorem rt68_b : rtB 68 = true := by kernel_rfl
theorem rt68_1 : rtT 68 1 = true := by kernel_rfl
theorem rt68_2 : rtT 68 2 = true := by kernel_rfl
theorem rt68_3 : rtT 68 3 = true := by kernel_rfl
theorem rt68_4 : rtT 68 4 = true := by kernel_rfl
theorem rt68_5 : rtT 68 5 = true := by kernel_rfl
theorem rt69_a : rtA 69 = true := by kernel_rfl
theorem rt69_b : rtB 69 = true := by kernel_rfl
theorem rt69_1 : rtT 69 1 = true := by kernel_rfl
theorem rt69_2 : rtT 69 2 = true := by kernel_rfl
theorem rt69_3 : rtT 69 3 = true := by kernel_rfl
theorem rt69_4 : rtT 69 4 = true := by kernel_rfl
theorem rt69_5 : rtT 69 5 = true := by kernel_rfl
theorem rt70_a : rtA 70 = true := by kernel_rfl
theorem rt70_b : rtB 70 = true := by kernel_rfl
theorem rt70_1 : rtT 70 1 = true := by kernel_rfl
theorem rt70_2 : rtT 70 2 = true := by kernel_rfl
theorem rt70_3 : rtT 70 3 = true := by kernel_rfl
theorem rt70_4 : rtT 70 4 = true := by kernel_rfl
theorem rt70_5 : rtT 70 5 = true := by kernel_rfl
theorem Rtn_ok (L : Nat) (h1 : 66 ≤ L) (h2 : L ≤ 70) : RtOk L := by
  obtain rfl | rfl | rfl | rfl | rfl : L = 66 ∨ L = 67 ∨ L = 68 ∨ L = 69 ∨ L = 70 := by omega
  · exact .of rt66_a rt66_b rt66_1 rt66_2 rt66_3 rt66_4 rt66_5
  · exact .of rt67_a rt67_b rt67_1 rt67_2 rt67_3 rt67_4 rt67_5
  · exact .of rt68_a rt68_b rt68_1 rt68_2 rt68_3 rt68_4 rt68_5
  · exact .of rt69_a rt69_b rt69_1 rt69_2 rt69_3 rt69_4 rt69_5
  · exact .of rt70_a rt70_b rt70_1 rt70_2 rt70_3 rt70_4 rt70_5
end Go.Proofs.YtdhkebolenbpiaaGreatDoor.X

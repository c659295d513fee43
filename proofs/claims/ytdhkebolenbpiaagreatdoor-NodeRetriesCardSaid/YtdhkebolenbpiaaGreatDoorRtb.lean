/- NodeRetries: the runs for keys of 6 to 10 bytes. -/
import Derived.Test.YtdhkebolenbpiaaGreatDoorRd
namespace Go.Proofs.YtdhkebolenbpiaaGreatDoor.X
open Go.RowKit S
theorem rt6_a : rtA 6 = true := by kernel_rfl
theorem rt6_b : rtB 6 = true := by kernel_rfl
theorem rt6_1 : rtT 6 1 = true := by kernel_rfl
theorem rt6_2 : rtT 6 2 = true := by kernel_rfl
theorem rt6_3 : rtT 6 3 = true := by kernel_rfl
theorem rt6_4 : rtT 6 4 = true := by kernel_rfl
theorem rt6_5 : rtT 6 5 = true := by kernel_rfl
theorem rt7_a : rtA 7 = true := by kernel_rfl
theorem rt7_b : rtB 7 = true := by kernel_rfl
theorem rt7_1 : rtT 7 1 = true := by kernel_rfl
theorem rt7_2 : rtT 7 2 = true := by kernel_rfl
theorem rt7_3 : rtT 7 3 = true := by kernel_rfl
theorem rt7_4 : rtT 7 4 = true := by kernel_rfl
theorem rt7_5 : rtT 7 5 = true := by kernel_rfl
theorem rt8_a : rtA 8 = true := by kernel_rfl
theorem rt8_b : rtB 8 = true := by kernel_rfl
theorem rt8_1 : rtT 8 1 = true := by kernel_rfl
theorem rt8_2 : rtT 8 2 = true := by kernel_rfl
theorem rt8_3 : rtT 8 3 = true := by kernel_rfl
theorem rt8_4 : rtT 8 4 = true := by kernel_rfl
theorem rt8_5 : rtT 8 5 = true := by kernel_rfl
theorem rt9_a : rtA 9 = true := by kernel_rfl
theorem rt9_b : rtB 9 = true := by kernel_rfl
theorem rt9_1 : rtT 9 1 = true := by kernel_rfl
theorem rt9_2 : rtT 9 2 = true := by kernel_rfl
theorem rt9_3 : rtT 9 3 = true := by kernel_rfl
theorem rt9_4 : rtT 9 4 = true := by kernel_rfl
theorem rt9_5 : rtT 9 5 = true := by kernel_rfl
theorem rt10_a : rtA 10 = true := by kernel_rfl
theorem rt10_b : rtB 10 = true := by kernel_rfl
theorem rt10_1 : rtT 10 1 = true := by kernel_rfl
theorem rt10_2 : rtT 10 2 = true := by kernel_rfl
theorem rt10_3 : rtT 10 3 = true := by kernel_rfl
theorem rt10_4 : rtT 10 4 = true := by kernel_rfl
theorem rt10_5 : rtT 10 5 = true := by kernel_rfl
theorem Rtb_ok (L : Nat) (h1 : 6 ≤ L) (h2 : L ≤ 10) : RtOk L := by
  obtain rfl | rfl | rfl | rfl | rfl : L = 6 ∨ L = 7 ∨ L = 8 ∨ L = 9 ∨ L = 10 := by omega
  · exact .of rt6_a rt6_b rt6_1 rt6_2 rt6_3 rt6_4 rt6_5
  · exact .of rt7_a rt7_b rt7_1 rt7_2 rt7_3 rt7_4 rt7_5
  · exact .of rt8_a rt8_b rt8_1 rt8_2 rt8_3 rt8_4 rt8_5
  · exact .of rt9_a rt9_b rt9_1 rt9_2 rt9_3 rt9_4 rt9_5
  · exact .of rt10_a rt10_b rt10_1 rt10_2 rt10_3 rt10_4 rt10_5
end Go.Proofs.YtdhkebolenbpiaaGreatDoor.X

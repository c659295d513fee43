/- NodeRetries: the runs for keys of 1 to 5 bytes. -/
import Derived.Test.YtdhkebolenbpiaaGreatDoorRd
namespace Go.Proofs.YtdhkebolenbpiaaGreatDoor.X
open Go.RowKit S
theorem rt1_a : rtA 1 = true := by kernel_rfl
theorem rt1_b : rtB 1 = true := by kernel_rfl
theorem rt1_1 : rtT 1 1 = true := by kernel_rfl
theorem rt1_2 : rtT 1 2 = true := by kernel_rfl
theorem rt1_3 : rtT 1 3 = true := by kernel_rfl
theorem rt1_4 : rtT 1 4 = true := by kernel_rfl
theorem rt1_5 : rtT 1 5 = true := by kernel_rfl
theorem rt2_a : rtA 2 = true := by kernel_rfl
theorem rt2_b : rtB 2 = true := by kernel_rfl
theorem rt2_1 : rtT 2 1 = true := by kernel_rfl
theorem rt2_2 : rtT 2 2 = true := by kernel_rfl
theorem rt2_3 : rtT 2 3 = true := by kernel_rfl
theorem rt2_4 : rtT 2 4 = true := by kernel_rfl
theorem rt2_5 : rtT 2 5 = true := by kernel_rfl
theorem rt3_a : rtA 3 = true := by kernel_rfl
theorem rt3_b : rtB 3 = true := by kernel_rfl
theorem rt3_1 : rtT 3 1 = true := by kernel_rfl
theorem rt3_2 : rtT 3 2 = true := by kernel_rfl
theorem rt3_3 : rtT 3 3 = true := by kernel_rfl
theorem rt3_4 : rtT 3 4 = true := by kernel_rfl
theorem rt3_5 : rtT 3 5 = true := by kernel_rfl
theorem rt4_a : rtA 4 = true := by kernel_rfl
theorem rt4_b : rtB 4 = true := by kernel_rfl
theorem rt4_1 : rtT 4 1 = true := by kernel_rfl
theorem rt4_2 : rtT 4 2 = true := by kernel_rfl
theorem rt4_3 : rtT 4 3 = true := by kernel_rfl
theorem rt4_4 : rtT 4 4 = true := by kernel_rfl
theorem rt4_5 : rtT 4 5 = true := by kernel_rfl
theorem rt5_a : rtA 5 = true := by kernel_rfl
theorem rt5_b : rtB 5 = true := by kernel_rfl
theorem rt5_1 : rtT 5 1 = true := by kernel_rfl
theorem rt5_2 : rtT 5 2 = true := by kernel_rfl
theorem rt5_3 : rtT 5 3 = true := by kernel_rfl
theorem rt5_4 : rtT 5 4 = true := by kernel_rfl
theorem rt5_5 : rtT 5 5 = true := by kernel_rfl
theorem Rta_ok (L : Nat) (h1 : 1 ≤ L) (h2 : L ≤ 5) : RtOk L := by
  obtain rfl | rfl | rfl | rfl | rfl : L = 1 ∨ L = 2 ∨ L = 3 ∨ L = 4 ∨ L = 5 := by omega
  · exact .of rt1_a rt1_b rt1_1 rt1_2 rt1_3 rt1_4 rt1_5
  · exact .of rt2_a rt2_b rt2_1 rt2_2 rt2_3 rt2_4 rt2_5
  · exact .of rt3_a rt3_b rt3_1 rt3_2 rt3_3 rt3_4 rt3_5
  · exact .of rt4_a rt4_b rt4_1 rt4_2 rt4_3 rt4_4 rt4_5
  · exact .of rt5_a rt5_b rt5_1 rt5_2 rt5_3 rt5_4 rt5_5
end Go.Proofs.YtdhkebolenbpiaaGreatDoor.X

/- NodeRetries: the runs for keys of 31 to 35 bytes. -/
import Derived.Test.YtdhkebolenbpiaaGreatDoorRd
namespace Go.Proofs.YtdhkebolenbpiaaGreatDoor.X
open Go.RowKit S
theorem rt31_a : rtA 31 = true := by kernel_rfl
theorem rt31_b : rtB 31 = true := by kernel_rfl
theorem rt31_1 : rtT 31 1 = true := by kernel_rfl
theorem rt31_2 : rtT 31 2 = true := by kernel_rfl
theorem rt31_3 : rtT 31 3 = true := by kernel_rfl
theorem rt31_4 : rtT 31 4 = true := by kernel_rfl
theorem rt31_5 : rtT 31 5 = true := by kernel_rfl
theorem rt32_a : rtA 32 = true := by kernel_rfl
theorem rt32_b : rtB 32 = true := by kernel_rfl
theorem rt32_1 : rtT 32 1 = true := by kernel_rfl
theorem rt32_2 : rtT 32 2 = true := by kernel_rfl
theorem rt32_3 : rtT 32 3 = true := by kernel_rfl
theorem rt32_4 : rtT 32 4 = true := by kernel_rfl
theorem rt32_5 : rtT 32 5 = true := by kernel_rfl
theorem rt33_a : rtA 33 = true := by kernel_rfl
theorem rt33_b : rtB 33 = true := by kernel_rfl
theorem rt33_1 : rtT 33 1 = true := by kernel_rfl
theorem rt33_2 : rtT 33 2 = true := by kernel_rfl
theorem rt33_3 : rtT 33 3 = true := by kernel_rfl
theorem rt33_4 : rtT 33 4 = true := by kernel_rfl
theorem rt33_5 : rtT 33 5 = true := by kernel_rfl
theorem rt34_a : rtA 34 = true := by kernel_rfl
theorem rt34_b : rtB 34 = true := by kernel_rfl
theorem rt34_1 : rtT 34 1 = true := by kernel_rfl
theorem rt34_2 : rtT 34 2 = true := by kernel_rfl
theorem rt34_3 : rtT 34 3 = true := by kernel_rfl
theorem rt34_4 : rtT 34 4 = true := by kernel_rfl
theorem rt34_5 : rtT 34 5 = true := by kernel_rfl
theorem rt35_a : rtA 35 = true := by kernel_rfl
theorem rt35_b : rtB 35 = true := by kernel_rfl
theorem rt35_1 : rtT 35 1 = true := by kernel_rfl
theorem rt35_2 : rtT 35 2 = true := by kernel_rfl
theorem rt35_3 : rtT 35 3 = true := by kernel_rfl
theorem rt35_4 : rtT 35 4 = true := by kernel_rfl
theorem rt35_5 : rtT 35 5 = true := by kernel_rfl
theorem Rtg_ok (L : Nat) (h1 : 31 ≤ L) (h2 : L ≤ 35) : RtOk L := by
  obtain rfl | rfl | rfl | rfl | rfl : L = 31 ∨ L = 32 ∨ L = 33 ∨ L = 34 ∨ L = 35 := by omega
  · exact .of rt31_a rt31_b rt31_1 rt31_2 rt31_3 rt31_4 rt31_5
  · exact .of rt32_a rt32_b rt32_1 rt32_2 rt32_3 rt32_4 rt32_5
  · exact .of rt33_a rt33_b rt33_1 rt33_2 rt33_3 rt33_4 rt33_5
  · exact .of rt34_a rt34_b rt34_1 rt34_2 rt34_3 rt34_4 rt34_5
  · exact .of rt35_a rt35_b rt35_1 rt35_2 rt35_3 rt35_4 rt35_5
end Go.Proofs.YtdhkebolenbpiaaGreatDoor.X

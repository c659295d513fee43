/- NodeRetries: the runs for keys of 61 to 65 bytes. -/
import Derived.Test.YtdhkebolenbpiaaGreatDoorRd
namespace Go.Proofs.YtdhkebolenbpiaaGreatDoor.X
open Go.RowKit S
theorem rt61_a : rtA 61 = true := by kernel_rfl
theorem rt61_b : rtB 61 = true := by kernel_rfl
theorem rt61_1 : rtT 61 1 = true := by kernel_rfl
theorem rt61_2 : rtT 61 2 = true := by kernel_rfl
theorem rt61_3 : rtT 61 3 = true := by kernel_rfl
theorem rt61_4 : rtT 61 4 = true := by kernel_rfl
theorem rt61_5 : rtT 61 5 = true := by kernel_rfl
theorem rt62_a : rtA 62 = true := by kernel_rfl
theorem rt62_b : rtB 62 = true := by kernel_rfl
theorem rt62_1 : rtT 62 1 = true := by kernel_rfl
theorem rt62_2 : rtT 62 2 = true := by kernel_rfl
theorem rt62_3 : rtT 62 3 = true := by kernel_rfl
theorem rt62_4 : rtT 62 4 = true := by kernel_rfl
theorem rt62_5 : rtT 62 5 = true := by kernel_rfl
theorem rt63_a : rtA 63 = true := by kernel_rfl
theorem rt63_b : rtB 63 = true := by kernel_rfl
theorem rt63_1 : rtT 63 1 = true := by kernel_rfl
theorem rt63_2 : rtT 63 2 = true := by kernel_rfl
theorem rt63_3 : rtT 63 3 = true := by kernel_rfl
theorem rt63_4 : rtT 63 4 = true := by kernel_rfl
theorem rt63_5 : rtT 63 5 = true := by kernel_rfl
theorem rt64_a : rtA 64 = true := by kernel_rfl
theorem rt64_b : rtB 64 = true := by kernel_rfl
theorem rt64_1 : rtT 64 1 = true := by kernel_rfl
theorem rt64_2 : rtT 64 2 = true := by kernel_rfl
theorem rt64_3 : rtT 64 3 = true := by kernel_rfl
theorem rt64_4 : rtT 64 4 = true := by kernel_rfl
theorem rt64_5 : rtT 64 5 = true := by kernel_rfl
theorem rt65_a : rtA 65 = true := by kernel_rfl
theorem rt65_b : rtB 65 = true := by kernel_rfl
theorem rt65_1 : rtT 65 1 = true := by kernel_rfl
theorem rt65_2 : rtT 65 2 = true := by kernel_rfl
theorem rt65_3 : rtT 65 3 = true := by kernel_rfl
theorem rt65_4 : rtT 65 4 = true := by kernel_rfl
theorem rt65_5 : rtT 65 5 = true := by kernel_rfl
theorem Rtm_ok (L : Nat) (h1 : 61 ≤ L) (h2 : L ≤ 65) : RtOk L := by
  obtain rfl | rfl | rfl | rfl | rfl : L = 61 ∨ L = 62 ∨ L = 63 ∨ L = 64 ∨ L = 65 := by omega
  · exact .of rt61_a rt61_b rt61_1 rt61_2 rt61_3 rt61_4 rt61_5
  · exact .of rt62_a rt62_b rt62_1 rt62_2 rt62_3 rt62_4 rt62_5
  · exact .of rt63_a rt63_b rt63_1 rt63_2 rt63_3 rt63_4 rt63_5
  · exact .of rt64_a rt64_b rt64_1 rt64_2 rt64_3 rt64_4 rt64_5
  · exact .of rt65_a rt65_b rt65_1 rt65_2 rt65_3 rt65_4 rt65_5
end Go.Proofs.YtdhkebolenbpiaaGreatDoor.X

/- NodeRetries: the runs for keys of 21 to 25 bytes. -/
import Derived.Test.YtdhkebolenbpiaaGreatDoorRd
namespace Go.Proofs.YtdhkebolenbpiaaGreatDoor.X
open Go.RowKit S
theorem rt21_a : rtA 21 = true := by kernel_rfl
theorem rt21_b : rtB 21 = true := by kernel_rfl
theorem rt21_1 : rtT 21 1 = true := by kernel_rfl
theorem rt21_2 : rtT 21 2 = true := by kernel_rfl
theorem rt21_3 : rtT 21 3 = true := by kernel_rfl
theorem rt21_4 : rtT 21 4 = true := by kernel_rfl
theorem rt21_5 : rtT 21 5 = true := by kernel_rfl
theorem rt22_a : rtA 22 = true := by kernel_rfl
theorem rt22_b : rtB 22 = true := by kernel_rfl
theorem rt22_1 : rtT 22 1 = true := by kernel_rfl
theorem rt22_2 : rtT 22 2 = true := by kernel_rfl
theorem rt22_3 : rtT 22 3 = true := by kernel_rfl
theorem rt22_4 : rtT 22 4 = true := by kernel_rfl
theorem rt22_5 : rtT 22 5 = true := by kernel_rfl
theorem rt23_a : rtA 23 = true := by kernel_rfl
theorem rt23_b : rtB 23 = true := by kernel_rfl
theorem rt23_1 : rtT 23 1 = true := by kernel_rfl
theorem rt23_2 : rtT 23 2 = true := by kernel_rfl
theorem rt23_3 : rtT 23 3 = true := by kernel_rfl
theorem rt23_4 : rtT 23 4 = true := by kernel_rfl
theorem rt23_5 : rtT 23 5 = true := by kernel_rfl
theorem rt24_a : rtA 24 = true := by kernel_rfl
theorem rt24_b : rtB 24 = true := by kernel_rfl
theorem rt24_1 : rtT 24 1 = true := by kernel_rfl
theorem rt24_2 : rtT 24 2 = true := by kernel_rfl
theorem rt24_3 : rtT 24 3 = true := by kernel_rfl
theorem rt24_4 : rtT 24 4 = true := by kernel_rfl
theorem rt24_5 : rtT 24 5 = true := by kernel_rfl
theorem rt25_a : rtA 25 = true := by kernel_rfl
theorem rt25_b : rtB 25 = true := by kernel_rfl
theorem rt25_1 : rtT 25 1 = true := by kernel_rfl
theorem rt25_2 : rtT 25 2 = true := by kernel_rfl
theorem rt25_3 : rtT 25 3 = true := by kernel_rfl
theorem rt25_4 : rtT 25 4 = true := by kernel_rfl
theorem rt25_5 : rtT 25 5 = true := by kernel_rfl
theorem Rte_ok (L : Nat) (h1 : 21 ≤ L) (h2 : L ≤ 25) : RtOk L := by
  obtain rfl | rfl | rfl | rfl | rfl : L = 21 ∨ L = 22 ∨ L = 23 ∨ L = 24 ∨ L = 25 := by omega
  · exact .of rt21_a rt21_b rt21_1 rt21_2 rt21_3 rt21_4 rt21_5
  · exact .of rt22_a rt22_b rt22_1 rt22_2 rt22_3 rt22_4 rt22_5
  · exact .of rt23_a rt23_b rt23_1 rt23_2 rt23_3 rt23_4 rt23_5
  · exact .of rt24_a rt24_b rt24_1 rt24_2 rt24_3 rt24_4 rt24_5
  · exact .of rt25_a rt25_b rt25_1 rt25_2 rt25_3 rt25_4 rt25_5
end Go.Proofs.YtdhkebolenbpiaaGreatDoor.X

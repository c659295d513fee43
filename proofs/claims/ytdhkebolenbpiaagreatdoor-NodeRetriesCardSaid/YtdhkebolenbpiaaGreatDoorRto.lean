/- NodeRetries: the runs for keys of 71 to 75 bytes. -/
import Derived.Test.YtdhkebolenbpiaaGreatDoorRd
namespace Go.Proofs.YtdhkebolenbpiaaGreatDoor.X
open Go.RowKit S
theorem rt71_a : rtA 71 = true := by kernel_rfl
theorem rt71_b : rtB 71 = true := by kernel_rfl
theorem rt71_1 : rtT 71 1 = true := by kernel_rfl
theorem rt71_2 : rtT 71 2 = true := by kernel_rfl
theorem rt71_3 : rtT 71 3 = true := by kernel_rfl
theorem rt71_4 : rtT 71 4 = true := by kernel_rfl
theorem rt71_5 : rtT 71 5 = true := by kernel_rfl
theorem rt72_a : rtA 72 = true := by kernel_rfl
theorem rt72_b : rtB 72 = true := by kernel_rfl
theorem rt72_1 : rtT 72 1 = true := by kernel_rfl
theorem rt72_2 : rtT 72 2 = true := by kernel_rfl
theorem rt72_3 : rtT 72 3 = true := by kernel_rfl
theorem rt72_4 : rtT 72 4 = true := by kernel_rfl
theorem rt72_5 : rtT 72 5 = true := by kernel_rfl
theorem rt73_a : rtA 73 = true := by kernel_rfl
theorem rt73_b : rtB 73 = true := by kernel_rfl
theorem rt73_1 : rtT 73 1 = true := by kernel_rfl
theorem rt73_2 : rtT 73 2 = true := by kernel_rfl
theorem rt73_3 : rtT 73 3 = true := by kernel_rfl
theorem rt73_4 : rtT 73 4 = true := by kernel_rfl
theorem rt73_5 : rtT 73 5 = true := by kernel_rfl
theorem rt74_a : rtA 74 = true := by kernel_rfl
theorem rt74_b : rtB 74 = true := by kernel_rfl
theorem rt74_1 : rtT 74 1 = true := by kernel_rfl
theorem rt74_2 : rtT 74 2 = true := by kernel_rfl
theorem rt74_3 : rtT 74 3 = true := by kernel_rfl
theorem rt74_4 : rtT 74 4 = true := by kernel_rfl
theorem rt74_5 : rtT 74 5 = true := by kernel_rfl
theorem rt75_a : rtA 75 = true := by kernel_rfl
theorem rt75_b : rtB 75 = true := by kernel_rfl
theorem rt75_1 : rtT 75 1 = true := by kernel_rfl
theorem rt75_2 : rtT 75 2 = true := by kernel_rfl
theorem rt75_3 : rtT 75 3 = true := by kernel_rfl
theorem rt75_4 : rtT 75 4 = true := by kernel_rfl
theorem rt75_5 : rtT 75 5 = true := by kernel_rfl
theorem Rto_ok (L : Nat) (h1 : 71 ≤ L) (h2 : L ≤ 75) : RtOk L := by
  obtain rfl | rfl | rfl | rfl | rfl : L = 71 ∨ L = 72 ∨ L = 73 ∨ L = 74 ∨ L = 75 := by omega
  · exact .of rt71_a rt71_b rt71_1 rt71_2 rt71_3 rt71_4 rt71_5
  · exact .of rt72_a rt72_b rt72_1 rt72_2 rt72_3 rt72_4 rt72_5
  · exact .of rt73_a rt73_b rt73_1 rt73_2 rt73_3 rt73_4 rt73_5
  · exact .of rt74_a rt74_b rt74_1 rt74_2 rt74_3 rt74_4 rt74_5
  · exact .of rt75_a rt75_b rt75_1 rt75_2 rt75_3 rt75_4 rt75_5
end Go.Proofs.YtdhkebolenbpiaaGreatDoor.X

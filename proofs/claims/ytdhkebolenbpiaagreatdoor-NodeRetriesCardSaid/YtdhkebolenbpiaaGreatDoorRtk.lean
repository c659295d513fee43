/- NodeRetries: the runs for keys of 51 to 55 bytes. -/
import Derived.Test.YtdhkebolenbpiaaGreatDoorRd
namespace Go.Proofs.YtdhkebolenbpiaaGreatDoor.X
open Go.RowKit S
theorem rt51_a : rtA 51 = true := by kernel_rfl
theorem rt51_b : rtB 51 = true := by kernel_rfl
theorem rt51_1 : rtT 51 1 = true := by kernel_rfl
theorem rt51_2 : rtT 51 2 = true := by kernel_rfl
theorem rt51_3 : rtT 51 3 = true := by kernel_rfl
theorem rt51_4 : rtT 51 4 = true := by kernel_rfl
theorem rt51_5 : rtT 51 5 = true := by kernel_rfl
theorem rt52_a : rtA 52 = true := by kernel_rfl
theorem rt52_b : rtB 52 = true := by kernel_rfl
theorem rt52_1 : rtT 52 1 = true := by kernel_rfl
theorem rt52_2 : rtT 52 2 = true := by kernel_rfl
theorem rt52_3 : rtT 52 3 = true := by kernel_rfl
theorem rt52_4 : rtT 52 4 = true := by kernel_rfl
theorem rt52_5 : rtT 52 5 = true := by kernel_rfl
theorem rt53_a : rtA 53 = true := by kernel_rfl
theorem rt53_b : rtB 53 = true := by kernel_rfl
theorem rt53_1 : rtT 53 1 = true := by kernel_rfl
theorem rt53_2 : rtT 53 2 = true := by kernel_rfl
theorem rt53_3 : rtT 53 3 = true := by kernel_rfl
theorem rt53_4 : rtT 53 4 = true := by kernel_rfl
theorem rt53_5 : rtT 53 5 = true := by kernel_rfl
theorem rt54_a : rtA 54 = true := by kernel_rfl
theorem rt54_b : rtB 54 = true := by kernel_rfl
theorem rt54_1 : rtT 54 1 = true := by kernel_rfl
theorem rt54_2 : rtT 54 2 = true := by kernel_rfl
theorem rt54_3 : rtT 54 3 = true := by kernel_rfl
theorem rt54_4 : rtT 54 4 = true := by kernel_rfl
theorem rt54_5 : rtT 54 5 = true := by kernel_rfl
theorem rt55_a : rtA 55 = true := by kernel_rfl
theorem rt55_b : rtB 55 = true := by kernel_rfl
theorem rt55_1 : rtT 55 1 = true := by kernel_rfl
theorem rt55_2 : rtT 55 2 = true := by kernel_rfl
theorem rt55_3 : rtT 55 3 = true := by kernel_rfl
theorem rt55_4 : rtT 55 4 = true := by kernel_rfl
theorem rt55_5 : rtT 55 5 = true := by kernel_rfl
theorem Rtk_ok (L : Nat) (h1 : 51 ≤ L) (h2 : L ≤ 55) : RtOk L := by
  obtain rfl | rfl | rfl | rfl | rfl : L = 51 ∨ L = 52 ∨ L = 53 ∨ L = 54 ∨ L = 55 := by omega
  · exact .of rt51_a rt51_b rt51_1 rt51_2 rt51_3 rt51_4 rt51_5
  · exact .of rt52_a rt52_b rt52_1 rt52_2 rt52_3 rt52_4 rt52_5
  · exact .of rt53_a rt53_b rt53_1 rt53_2 rt53_3 rt53_4 rt53_5
  · exact .of rt54_a rt54_b rt54_1 rt54_2 rt54_3 rt54_4 rt54_5
  · exact .of rt55_a rt55_b rt55_1 rt55_2 rt55_3 rt55_4 rt55_5
end Go.Proofs.YtdhkebolenbpiaaGreatDoor.X

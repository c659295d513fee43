/- NodeRetries: the runs for keys of 16 to 20 bytes. -/
import Derived.Test.YtdhkebolenbpiaaGreatDoorRd
namespace Go.Proofs.YtdhkebolenbpiaaGreatDoor.X
open Go.RowKit S
theorem rt16_a : rtA 16 = true := by kernel_rfl
theorem rt16_b : rtB 16 = true := by kernel_rfl
theorem rt16_1 : rtT 16 1 = true := by kernel_rfl
theorem rt16_2 : rtT 16 2 = true := by kernel_rfl
theorem rt16_3 : rtT 16 3 = true := by kernel_rfl
theorem rt16_4 : rtT 16 4 = true := by kernel_rfl
theorem rt16_5 : rtT 16 5 = true := by kernel_rfl
theorem rt17_a : rtA 17 = true := by kernel_rfl
theorem rt17_b : rtB 17 = true := by kernel_rfl
theorem rt17_1 : rtT 17 1 = true := by kernel_rfl
theorem rt17_2 : rtT 17 2 = true := by kernel_rfl
theorem rt17_3 : rtT 17 3 = true := by kernel_rfl
theorem rt17_4 : rtT 17 4 = true := by kernel_rfl
theorem rt17_5 : rtT 17 5 = true := by kernel_rfl
theorem rt18_a : rtA 18 = true := by kernel_rfl
theorem rt18_b : rtB 18 = true := by kernel_rfl
theorem rt18_1 : rtT 18 1 = true := by kernel_rfl
theorem rt18_2 : rtT 18 2 = true := by kernel_rfl
theorem rt18_3 : rtT 18 3 = true := by kernel_rfl
theorem rt18_4 : rtT 18 4 = true := by kernel_rfl
theorem rt18_5 : rtT 18 5 = true := by kernel_rfl
theorem rt19_a : rtA 19 = true := by kernel_rfl
theorem rt19_b : rtB 19 = true := by kernel_rfl
theorem rt19_1 : rtT 19 1 = true := by kernel_rfl
theorem rt19_2 : rtT 19 2 = true := by kernel_rfl
theorem rt19_3 : rtT 19 3 = true := by kernel_rfl
theorem rt19_4 : rtT 19 4 = true := by kernel_rfl
theorem rt19_5 : rtT 19 5 = true := by kernel_rfl
theorem rt20_a : rtA 20 = true := by kernel_rfl
theorem rt20_b : rtB 20 = true := by kernel_rfl
theorem rt20_1 : rtT 20 1 = true := by kernel_rfl
theorem rt20_2 : rtT 20 2 = true := by kernel_rfl
theorem rt20_3 : rtT 20 3 = true := by kernel_rfl
theorem rt20_4 : rtT 20 4 = true := by kernel_rfl
theorem rt20_5 : rtT 20 5 = true := by kernel_rfl
theorem Rtd_ok (L : Nat) (h1 : 16 ≤ L) (h2 : L ≤ 20) : RtOk L := by
  obtain rfl | rfl | rfl | rfl | rfl : L = 16 ∨ L = 17 ∨ L = 18 ∨ L = 19 ∨ L = 20 := by omega
  · exact .of rt16_a rt16_b rt16_1 rt16_2 rt16_3 rt16_4 rt16_5
  · exact .of rt17_a rt17_b rt17_1 rt17_2 rt17_3 rt17_4 rt17_5
  · exact .of rt18_a rt18_b rt18_1 rt18_2 rt18_3 rt18_4 rt18_5
  · exact .of rt19_a rt19_b rt19_1 rt19_2 rt19_3 rt19_4 rt19_5
  · exact .of rt20_a rt20_b rt20_1 rt20_2 rt20_3 rt20_4 rt20_5
end Go.Proofs.YtdhkebolenbpiaaGreatDoor.X

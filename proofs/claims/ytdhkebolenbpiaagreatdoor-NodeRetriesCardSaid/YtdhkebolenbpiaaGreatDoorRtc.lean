/- NodeRetries: the runs for keys of 11 to 15 bytes. -/
import Derived.Test.YtdhkebolenbpiaaGreatDoorRd
namespace Go.Proofs.YtdhkebolenbpiaaGreatDoor.X
open Go.RowKit S
theorem rt11_a : rtA 11 = true := by kernel_rfl
theorem rt11_b : rtB 11 = true := by kernel_rfl
theorem rt11_1 : rtT 11 1 = true := by kernel_rfl
theorem rt11_2 : rtT 11 2 = true := by kernel_rfl
theorem rt11_3 : rtT 11 3 = true := by kernel_rfl
theorem rt11_4 : rtT 11 4 = true := by kernel_rfl
theorem rt11_5 : rtT 11 5 = true := by kernel_rfl
theorem rt12_a : rtA 12 = true := by kernel_rfl
theorem rt12_b : rtB 12 = true := by kernel_rfl
theorem rt12_1 : rtT 12 1 = true := by kernel_rfl
theorem rt12_2 : rtT 12 2 = true := by kernel_rfl
theorem rt12_3 : rtT 12 3 = true := by kernel_rfl
theorem rt12_4 : rtT 12 4 = true := by kernel_rfl
theorem rt12_5 : rtT 12 5 = true := by kernel_rfl
theorem rt13_a : rtA 13 = true := by kernel_rfl
theorem rt13_b : rtB 13 = true := by kernel_rfl
theorem rt13_1 : rtT 13 1 = true := by kernel_rfl
theorem rt13_2 : rtT 13 2 = true := by kernel_rfl
theorem rt13_3 : rtT 13 3 = true := by kernel_rfl
theorem rt13_4 : rtT 13 4 = true := by kernel_rfl
theorem rt13_5 : rtT 13 5 = true := by kernel_rfl
theorem rt14_a : rtA 14 = true := by kernel_rfl
theorem rt14_b : rtB 14 = true := by kernel_rfl
theorem rt14_1 : rtT 14 1 = true := by kernel_rfl
theorem rt14_2 : rtT 14 2 = true := by kernel_rfl
theorem rt14_3 : rtT 14 3 = true := by kernel_rfl
theorem rt14_4 : rtT 14 4 = true := by kernel_rfl
theorem rt14_5 : rtT 14 5 = true := by kernel_rfl
theorem rt15_a : rtA 15 = true := by kernel_rfl
theorem rt15_b : rtB 15 = true := by kernel_rfl
theorem rt15_1 : rtT 15 1 = true := by kernel_rfl
theorem rt15_2 : rtT 15 2 = true := by kernel_rfl
theorem rt15_3 : rtT 15 3 = true := by kernel_rfl
theorem rt15_4 : rtT 15 4 = true := by kernel_rfl
theorem rt15_5 : rtT 15 5 = true := by kernel_rfl
theorem Rtc_ok (L : Nat) (h1 : 11 ≤ L) (h2 : L ≤ 15) : RtOk L := by
  obtain rfl | rfl | rfl | rfl | rfl : L = 11 ∨ L = 12 ∨ L = 13 ∨ L = 14 ∨ L = 15 := by omega
  · exact .of rt11_a rt11_b rt11_1 rt11_2 rt11_3 rt11_4 rt11_5
  · exact .of rt12_a rt12_b rt12_1 rt12_2 rt12_3 rt12_4 rt12_5
  · exact .of rt13_a rt13_b rt13_1 rt13_2 rt13_3 rt13_4 rt13_5
  · exact .of rt14_a rt14_b rt14_1 rt14_2 rt14_3 rt14_4 rt14_5
  · exact .of rt15_a rt15_b rt15_1 rt15_2 rt15_3 rt15_4 rt15_5
end Go.Proofs.YtdhkebolenbpiaaGreatDoor.X

/- NodeRetries: the runs for keys of 56 to 60 bytes. -/
import Derived.Test.YtdhkebolenbpiaaGreatDoorRd
namespace Go.Proofs.YtdhkebolenbpiaaGreatDoor.X
open Go.RowKit S
theorem rt56_a : rtA 56 = true := by kernel_rfl
theorem rt56_b : rtB 56 = true := by kernel_rfl
theorem rt56_1 : rtT 56 1 = true := by kernel_rfl
theorem rt56_2 : rtT 56 2 = true := by kernel_rfl
theorem rt56_3 : rtT 56 3 = true := by kernel_rfl
theorem rt56_4 : rtT 56 4 = true := by kernel_rfl
theorem rt56_5 : rtT 56 5 = true := by kernel_rfl
theorem rt57_a : rtA 57 = true := by kernel_rfl
theorem rt57_b : rtB 57 = true := by kernel_rfl
theorem rt57_1 : rtT 57 1 = true := by kernel_rfl
theorem rt57_2 : rtT 57 2 = true := by kernel_rfl
theorem rt57_3 : rtT 57 3 = true := by kernel_rfl
theorem rt57_4 : rtT 57 4 = true := by kernel_rfl
theorem rt57_5 : rtT 57 5 = true := by kernel_rfl
theorem rt58_a : rtA 58 = true := by kernel_rfl
theorem rt58_b : rtB 58 = true := by kernel_rfl
theorem rt58_1 : rtT 58 1 = true := by kernel_rfl
theorem rt58_2 : rtT 58 2 = true := by kernel_rfl
theorem rt58_3 : rtT 58 3 = true := by kernel_rfl
theorem rt58_4 : rtT 58 4 = true := by kernel_rfl
theorem rt58_5 : rtT 58 5 = true := by kernel_rfl
theorem rt59_a : rtA 59 = true := by kernel_rfl
theorem rt59_b : rtB 59 = true := by kernel_rfl
theorem rt59_1 : rtT 59 1 = true := by kernel_rfl
theorem rt59_2 : rtT 59 2 = true := by kernel_rfl
theorem rt59_3 : rtT 59 3 = true := by kernel_rfl
theorem rt59_4 : rtT 59 4 = true := by kernel_rfl
theorem rt59_5 : rtT 59 5 = true := by kernel_rfl
theorem rt60_a : rtA 60 = true := by kernel_rfl
theorem rt60_b : rtB 60 = true := by kernel_rfl
theorem rt60_1 : rtT 60 1 = true := by kernel_rfl
theorem rt60_2 : rtT 60 2 = true := by kernel_rfl
theorem rt60_3 : rtT 60 3 = true := by kernel_rfl
theorem rt60_4 : rtT 60 4 = true := by kernel_rfl
theorem rt60_5 : rtT 60 5 = true := by kernel_rfl
theorem Rtl_ok (L : Nat) (h1 : 56 ≤ L) (h2 : L ≤ 60) : RtOk L := by
  obtain rfl | rfl | rfl | rfl | rfl : L = 56 ∨ L = 57 ∨ L = 58 ∨ L = 59 ∨ L = 60 := by omega
  · exact .of rt56_a rt56_b rt56_1 rt56_2 rt56_3 rt56_4 rt56_5
  · exact .of rt57_a rt57_b rt57_1 rt57_2 rt57_3 rt57_4 rt57_5
  · exact .of rt58_a rt58_b rt58_1 rt58_2 rt58_3 rt58_4 rt58_5
  · exact .of rt59_a rt59_b rt59_1 rt59_2 rt59_3 rt59_4 rt59_5
  · exact .of rt60_a rt60_b rt60_1 rt60_2 rt60_3 rt60_4 rt60_5
end Go.Proofs.YtdhkebolenbpiaaGreatDoor.X

/- NodeRetries: the runs for keys of 46 to 50 bytes. -/
import Derived.Test.YtdhkebolenbpiaaGreatDoorRd
namespace Go.Proofs.YtdhkebolenbpiaaGreatDoor.X
open Go.RowKit S
theorem rt46_a : rtA 46 = true := by kernel_rfl
theorem rt46_b : rtB 46 = true := by kernel_rfl
theorem rt46_1 : rtT 46 1 = true := by kernel_rfl
theorem rt46_2 : rtT 46 2 = true := by kernel_rfl
theorem rt46_3 : rtT 46 3 = true := by kernel_rfl
theorem rt46_4 : rtT 46 4 = true := by kernel_rfl
theorem rt46_5 : rtT 46 5 = true := by kernel_rfl
theorem rt47_a : rtA 47 = true := by kernel_rfl
theorem rt47_b : rtB 47 = true := by kernel_rfl
theorem rt47_1 : rtT 47 1 = true := by kernel_rfl
theorem rt47_2 : rtT 47 2 = true := by kernel_rfl
theorem rt47_3 : rtT 47 3 = true := by kernel_rfl
theorem rt47_4 : rtT 47 4 = true := by kernel_rfl
theorem rt47_5 : rtT 47 5 = true := by kernel_rfl
theorem rt48_a : rtA 48 = true := by kernel_rfl
theorem rt48_b : rtB 48 = true := by kernel_rfl
theorem rt48_1 : rtT 48 1 = true := by kernel_rfl
theorem rt48_2 : rtT 48 2 = true := by kernel_rfl
theorem rt48_3 : rtT 48 3 = true := by kernel_rfl
theorem rt48_4 : rtT 48 4 = true := by kernel_rfl
theorem rt48_5 : rtT 48 5 = true := by kernel_rfl
theorem rt49_a : rtA 49 = true := by kernel_rfl
theorem rt49_b : rtB 49 = true := by kernel_rfl
theorem rt49_1 : rtT 49 1 = true := by kernel_rfl
theorem rt49_2 : rtT 49 2 = true := by kernel_rfl
theorem rt49_3 : rtT 49 3 = true := by kernel_rfl
theorem rt49_4 : rtT 49 4 = true := by kernel_rfl
theorem rt49_5 : rtT 49 5 = true := by kernel_rfl
theorem rt50_a : rtA 50 = true := by kernel_rfl
theorem rt50_b : rtB 50 = true := by kernel_rfl
theorem rt50_1 : rtT 50 1 = true := by kernel_rfl
theorem rt50_2 : rtT 50 2 = true := by kernel_rfl
theorem rt50_3 : rtT 50 3 = true := by kernel_rfl
theorem rt50_4 : rtT 50 4 = true := by kernel_rfl
theorem rt50_5 : rtT 50 5 = true := by kernel_rfl
theorem Rtj_ok (L : Nat) (h1 : 46 ≤ L) (h2 : L ≤ 50) : RtOk L := by
  obtain rfl | rfl | rfl | rfl | rfl : L = 46 ∨ L = 47 ∨ L = 48 ∨ L = 49 ∨ L = 50 := by omega
  · exact .of rt46_a rt46_b rt46_1 rt46_2 rt46_3 rt46_4 rt46_5
  · exact .of rt47_a rt47_b rt47_1 rt47_2 rt47_3 rt47_4 rt47_5
  · exact .of rt48_a rt48_b rt48_1 rt48_2 rt48_3 rt48_4 rt48_5
  · exact .of rt49_a rt49_b rt49_1 rt49_2 rt49_3 rt49_4 rt49_5
  · exact .of rt50_a rt50_b rt50_1 rt50_2 rt50_3 rt50_4 rt50_5
end Go.Proofs.YtdhkebolenbpiaaGreatDoor.X

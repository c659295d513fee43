/- NodeRetries: the runs for keys of 41 to 45 bytes. -/
import Derived.Test.YtdhkebolenbpiaaGreatDoorRd
namespace Go.Proofs.YtdhkebolenbpiaaGreatDoor.X
open Go.RowKit S
theorem rt41_a : rtA 41 = true := by kernel_rfl
theorem rt41_b : rtB 41 = true := by kernel_rfl
theorem rt41_1 : rtT 41 1 = true := by kernel_rfl
theorem rt41_2 : rtT 41 2 = true := by kernel_rfl
theorem rt41_3 : rtT 41 3 = true := by kernel_rfl
theorem rt41_4 : rtT 41 4 = true := by kernel_rfl
theorem rt41_5 : rtT 41 5 = true := by kernel_rfl
theorem rt42_a : rtA 42 = true := by kernel_rfl
theorem rt42_b : rtB 42 = true := by kernel_rfl
theorem rt42_1 : rtT 42 1 = true := by kernel_rfl
theorem rt42_2 : rtT 42 2 = true := by kernel_rfl
theorem rt42_3 : rtT 42 3 = true := by kernel_rfl
theorem rt42_4 : rtT 42 4 = true := by kernel_rfl
theorem rt42_5 : rtT 42 5 = true := by kernel_rfl
theorem rt43_a : rtA 43 = true := by kernel_rfl
theorem rt43_b : rtB 43 = true := by kernel_rfl
theorem rt43_1 : rtT 43 1 = true := by kernel_rfl
theorem rt43_2 : rtT 43 2 = true := by kernel_rfl
theorem rt43_3 : rtT 43 3 = true := by kernel_rfl
theorem rt43_4 : rtT 43 4 = true := by kernel_rfl
theorem rt43_5 : rtT 43 5 = true := by kernel_rfl
theorem rt44_a : rtA 44 = true := by kernel_rfl
theorem rt44_b : rtB 44 = true := by kernel_rfl
theorem rt44_1 : rtT 44 1 = true := by kernel_rfl
theorem rt44_2 : rtT 44 2 = true := by kernel_rfl
theorem rt44_3 : rtT 44 3 = true := by kernel_rfl
theorem rt44_4 : rtT 44 4 = true := by kernel_rfl
theorem rt44_5 : rtT 44 5 = true := by kernel_rfl
theorem rt45_a : rtA 45 = true := by kernel_rfl
theorem rt45_b : rtB 45 = true := by kernel_rfl
theorem rt45_1 : rtT 45 1 = true := by kernel_rfl
theorem rt45_2 : rtT 45 2 = true := by kernel_rfl
theorem rt45_3 : rtT 45 3 = true := by kernel_rfl
theorem rt45_4 : rtT 45 4 = true := by kernel_rfl
theorem rt45_5 : rtT 45 5 = true := by kernel_rfl
theorem Rti_ok (L : Nat) (h1 : 41 ≤ L) (h2 : L ≤ 45) : RtOk L := by
  obtain rfl | rfl | rfl | rfl | rfl : L = 41 ∨ L = 42 ∨ L = 43 ∨ L = 44 ∨ L = 45 := by omega
  · exact .of rt41_a rt41_b rt41_1 rt41_2 rt41_3 rt41_4 rt41_5
  · exact .of rt42_a rt42_b rt42_1 rt42_2 rt42_3 rt42_4 rt42_5
  · exact .of rt43_a rt43_b rt43_1 rt43_2 rt43_3 rt43_4 rt43_5
  · exact .of rt44_a rt44_b rt44_1 rt44_2 rt44_3 rt44_4 rt44_5
  · exact .of rt45_a rt45_b rt45_1 rt45_2 rt45_3 rt45_4 rt45_5
end Go.Proofs.YtdhkebolenbpiaaGreatDoor.X

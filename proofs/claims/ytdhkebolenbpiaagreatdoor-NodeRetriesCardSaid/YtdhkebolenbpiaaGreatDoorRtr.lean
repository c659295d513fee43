/- NodeRetries: the runs for keys of 86 to 90 bytes. -/
import Derived.Test.YtdhkebolenbpiaaGreatDoorRd
namespace Go.Proofs.YtdhkebolenbpiaaGreatDoor.X
open Go.RowKit S
theorem rt86_a : rtA 86 = true := by kernel_rfl
theorem rt86_b : rtB 86 = true := by kernel_rfl
theorem rt86_1 : rtT 86 1 = true := by kernel_rfl
theorem rt86_2 : rtT 86 2 = true := by kernel_rfl
theorem rt86_3 : rtT 86 3 = true := by kernel_rfl
theorem rt86_4 : rtT 86 4 = true := by kernel_rfl
theorem rt86_5 : rtT 86 5 = true := by kernel_rfl
theorem rt87_a : rtA 87 = true := by kernel_rfl
theorem rt87_b : rtB 87 = true := by kernel_rfl
theorem rt87_1 : rtT 87 1 = true := by kernel_rfl
theorem rt87_2 : rtT 87 2 = true := by kernel_rfl
theorem rt87_3 : rtT 87 3 = true := by kernel_rfl
theorem rt87_4 : rtT 87 4 = true := by kernel_rfl
theorem rt87_5 : rtT 87 5 = true := by kernel_rfl
theorem rt88_a : rtA 88 = true := by kernel_rfl
theorem rt88_b : rtB 88 = true := by kernel_rfl
theorem rt88_1 : rtT 88 1 = true := by kernel_rfl
theorem rt88_2 : rtT 88 2 = true := by kernel_rfl
theorem rt88_3 : rtT 88 3 = true := by kernel_rfl
theorem rt88_4 : rtT 88 4 = true := by kernel_rfl
theorem rt88_5 : rtT 88 5 = true := by kernel_rfl
theorem rt89_a : rtA 89 = true := by kernel_rfl
theorem rt89_b : rtB 89 = true := by kernel_rfl
theorem rt89_1 : rtT 89 1 = true := by kernel_rfl
theorem rt89_2 : rtT 89 2 = true := by kernel_rfl
theorem rt89_3 : rtT 89 3 = true := by kernel_rfl
theorem rt89_4 : rtT 89 4 = true := by kernel_rfl
theorem rt89_5 : rtT 89 5 = true := by kernel_rfl
theorem rt90_a : rtA 90 = true := by kernel_rfl
theorem rt90_b : rtB 90 = true := by kernel_rfl
theorem rt90_1 : rtT 90 1 = true := by kernel_rfl
theorem rt90_2 : rtT 90 2 = true := by kernel_rfl
theorem rt90_3 : rtT 90 3 = true := by kernel_rfl
theorem rt90_4 : rtT 90 4 = true := by kernel_rfl
theorem rt90_5 : rtT 90 5 = true := by kernel_rfl
theorem Rtr_ok (L : Nat) (h1 : 86 ≤ L) (h2 : L ≤ 90) : RtOk L := by
  obtain rfl | rfl | rfl | rfl | rfl : L = 86 ∨ L = 87 ∨ L = 88 ∨ L = 89 ∨ L = 90 := by omega
  · exact .of rt86_a rt86_b rt86_1 rt86_2 rt86_3 rt86_4 rt86_5
  · exact .of rt87_a rt87_b rt87_1 rt87_2 rt87_3 rt87_4 rt87_5
  · exact .of rt88_a rt88_b rt88_1 rt88_2 rt88_3 rt88_4 rt88_5
  · exact .of rt89_a rt89_b rt89_1 rt89_2 rt89_3 rt89_4 rt89_5
  · exact .of rt90_a rt90_b rt90_1 rt90_2 rt90_3 rt90_4 rt90_5
end Go.Proofs.YtdhkebolenbpiaaGreatDoor.X

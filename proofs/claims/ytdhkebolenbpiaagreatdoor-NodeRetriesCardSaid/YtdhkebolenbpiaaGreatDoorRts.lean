/- NodeRetries: the runs for keys of 91 to 95 bytes. -/
import Derived.Test.YtdhkebolenbpiaaGreatDoorRd
namespace Go.Proofs.YtdhkebolenbpiaaGreatDoor.X
open Go.RowKit S
theorem rt91_a : rtA 91 = true := by kernel_rfl
theorem rt91_b : rtB 91 = true := by kernel_rfl
theorem rt91_1 : rtT 91 1 = true := by kernel_rfl
theorem rt91_2 : rtT 91 2 = true := by kernel_rfl
theorem rt91_3 : rtT 91 3 = true := by kernel_rfl
theorem rt91_4 : rtT 91 4 = true := by kernel_rfl
theorem rt91_5 : rtT 91 5 = true := by kernel_rfl
theorem rt92_a : rtA 92 = true := by kernel_rfl
theorem rt92_b : rtB 92 = true := by kernel_rfl
theorem rt92_1 : rtT 92 1 = true := by kernel_rfl
theorem rt92_2 : rtT 92 2 = true := by kernel_rfl
theorem rt92_3 : rtT 92 3 = true := by kernel_rfl
theorem rt92_4 : rtT 92 4 = true := by kernel_rfl
theorem rt92_5 : rtT 92 5 = true := by kernel_rfl
theorem rt93_a : rtA 93 = true := by kernel_rfl
theorem rt93_b : rtB 93 = true := by kernel_rfl
theorem rt93_1 : rtT 93 1 = true := by kernel_rfl
theorem rt93_2 : rtT 93 2 = true := by kernel_rfl
theorem rt93_3 : rtT 93 3 = true := by kernel_rfl
theorem rt93_4 : rtT 93 4 = true := by kernel_rfl
theorem rt93_5 : rtT 93 5 = true := by kernel_rfl
theorem rt94_a : rtA 94 = true := by kernel_rfl
theorem rt94_b : rtB 94 = true := by kernel_rfl
theorem rt94_1 : rtT 94 1 = true := by kernel_rfl
theorem rt94_2 : rtT 94 2 = true := by kernel_rfl
theorem rt94_3 : rtT 94 3 = true := by kernel_rfl
theorem rt94_4 : rtT 94 4 = true := by kernel_rfl
theorem rt94_5 : rtT 94 5 = true := by kernel_rfl
theorem rt95_a : rtA 95 = true := by kernel_rfl
theorem rt95_b : rtB 95 = true := by kernel_rfl
theorem rt95_1 : rtT 95 1 = true := by kernel_rfl
theorem rt95_2 : rtT 95 2 = true := by kernel_rfl
theorem rt95_3 : rtT 95 3 = true := by kernel_rfl
theorem rt95_4 : rtT 95 4 = true := by kernel_rfl
theorem rt95_5 : rtT 95 5 = true := by kernel_rfl
theorem Rts_ok (L : Nat) (h1 : 91 ≤ L) (h2 : L ≤ 95) : RtOk L := by
  obtain rfl | rfl | rfl | rfl | rfl : L = 91 ∨ L = 92 ∨ L = 93 ∨ L = 94 ∨ L = 95 := by omega
  · exact .of rt91_a rt91_b rt91_1 rt91_2 rt91_3 rt91_4 rt91_5
  · exact .of rt92_a rt92_b rt92_1 rt92_2 rt92_3 rt92_4 rt92_5
  · exact .of rt93_a rt93_b rt93_1 rt93_2 rt93_3 rt93_4 rt93_5
  · exact .of rt94_a rt94_b rt94_1 rt94_2 rt94_3 rt94_4 rt94_5
  · exact .of rt95_a rt95_b rt95_1 rt95_2 rt95_3 rt95_4 rt95_5
end Go.Proofs.YtdhkebolenbpiaaGreatDoor.X

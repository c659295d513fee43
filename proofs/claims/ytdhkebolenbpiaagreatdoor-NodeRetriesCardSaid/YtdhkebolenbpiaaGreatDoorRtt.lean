/- NodeRetries: the runs for keys of 96 to 100 bytes. -/
import Derived.Test.YtdhkebolenbpiaaGreatDoorRd
namespace Go.Proofs.YtdhkebolenbpiaaGreatDoor.X
open Go.RowKit S
theorem rt96_a : rtA 96 = true := by kernel_rfl
theorem rt96_b : rtB 96 = true := by kernel_rfl
theorem rt96_1 : rtT 96 1 = true := by kernel_rfl
theorem rt96_2 : rtT 96 2 = true := by kernel_rfl
theorem rt96_3 : rtT 96 3 = true := by kernel_rfl
theorem rt96_4 : rtT 96 4 = true := by kernel_rfl
theorem rt96_5 : rtT 96 5 = true := by kernel_rfl
theorem rt97_a : rtA 97 = true := by kernel_rfl
theorem rt97_b : rtB 97 = true := by kernel_rfl
theorem rt97_1 : rtT 97 1 = true := by kernel_rfl
theorem rt97_2 : rtT 97 2 = true := by kernel_rfl
theorem rt97_3 : rtT 97 3 = true := by kernel_rfl
theorem rt97_4 : rtT 97 4 = true := by kernel_rfl
theorem rt97_5 : rtT 97 5 = true := by kernel_rfl
theorem rt98_a : rtA 98 = true := by kernel_rfl
theorem rt98_b : rtB 98 = true := by kernel_rfl
theorem rt98_1 : rtT 98 1 = true := by kernel_rfl
theorem rt98_2 : rtT 98 2 = true := by kernel_rfl
theorem rt98_3 : rtT 98 3 = true := by kernel_rfl
theorem rt98_4 : rtT 98 4 = true := by kernel_rfl
theorem rt98_5 : rtT 98 5 = true := by kernel_rfl
theorem rt99_a : rtA 99 = true := by kernel_rfl
theorem rt99_b : rtB 99 = true := by kernel_rfl
theorem rt99_1 : rtT 99 1 = true := by kernel_rfl
theorem rt99_2 : rtT 99 2 = true := by kernel_rfl
theorem rt99_3 : rtT 99 3 = true := by kernel_rfl
theorem rt99_4 : rtT 99 4 = true := by kernel_rfl
theorem rt99_5 : rtT 99 5 = true := by kernel_rfl
theorem rt100_a : rtA 100 = true := by kernel_rfl
theorem rt100_b : rtB 100 = true := by kernel_rfl
theorem rt100_1 : rtT 100 1 = true := by kernel_rfl
theorem rt100_2 : rtT 100 2 = true := by kernel_rfl
theorem rt100_3 : rtT 100 3 = true := by kernel_rfl
theorem rt100_4 : rtT 100 4 = true := by kernel_rfl
theorem rt100_5 : rtT 100 5 = true := by kernel_rfl
theorem Rtt_ok (L : Nat) (h1 : 96 ≤ L) (h2 : L ≤ 100) : RtOk L := by
  obtain rfl | rfl | rfl | rfl | rfl : L = 96 ∨ L = 97 ∨ L = 98 ∨ L = 99 ∨ L = 100 := by omega
  · exact .of rt96_a rt96_b rt96_1 rt96_2 rt96_3 rt96_4 rt96_5
  · exact .of rt97_a rt97_b rt97_1 rt97_2 rt97_3 rt97_4 rt97_5
  · exact .of rt98_a rt98_b rt98_1 rt98_2 rt98_3 rt98_4 rt98_5
  · exact .of rt99_a rt99_b rt99_1 rt99_2 rt99_3 rt99_4 rt99_5
  · exact .of rt100_a rt100_b rt100_1 rt100_2 rt100_3 rt100_4 rt100_5
end Go.Proofs.YtdhkebolenbpiaaGreatDoor.X

/- NodeRetries: the runs for keys of 76 to 80 bytes. -/
import Derived.Test.YtdhkebolenbpiaaGreatDoorRd
namespace Go.Proofs.YtdhkebolenbpiaaGreatDoor.X
open Go.RowKit S
theorem rt76_a : rtA 76 = true := by kernel_rfl
theorem rt76_b : rtB 76 = true := by kernel_rfl
theorem rt76_1 : rtT 76 1 = true := by kernel_rfl
theorem rt76_2 : rtT 76 2 = true := by kernel_rfl
theorem rt76_3 : rtT 76 3 = true := by kernel_rfl
theorem rt76_4 : rtT 76 4 = true := by kernel_rfl
theorem rt76_5 : rtT 76 5 = true := by kernel_rfl
theorem rt77_a : rtA 77 = true := by kernel_rfl
theorem rt77_b : rtB 77 = true := by kernel_rfl
theorem rt77_1 : rtT 77 1 = true := by kernel_rfl
theorem rt77_2 : rtT 77 2 = true := by kernel_rfl
theorem rt77_3 : rtT 77 3 = true := by kernel_rfl
theorem rt77_4 : rtT 77 4 = true := by kernel_rfl
theorem rt77_5 : rtT 77 5 = true := by kernel_rfl
theorem rt78_a : rtA 78 = true := by kernel_rfl
theorem rt78_b : rtB 78 = true := by kernel_rfl
theorem rt78_1 : rtT 78 1 = true := by kernel_rfl
theorem rt78_2 : rtT 78 2 = true := by kernel_rfl
theorem rt78_3 : rtT 78 3 = true := by kernel_rfl
theorem rt78_4 : rtT 78 4 = true := by kernel_rfl
theorem rt78_5 : rtT 78 5 = true := by kernel_rfl
theorem rt79_a : rtA 79 = true := by kernel_rfl
theorem rt79_b : rtB 79 = true := by kernel_rfl
theorem rt79_1 : rtT 79 1 = true := by kernel_rfl
theorem rt79_2 : rtT 79 2 = true := by kernel_rfl
theorem rt79_3 : rtT 79 3 = true := by kernel_rfl
theorem rt79_4 : rtT 79 4 = true := by kernel_rfl
theorem rt79_5 : rtT 79 5 = true := by kernel_rfl
theorem rt80_a : rtA 80 = true := by kernel_rfl
theorem rt80_b : rtB 80 = true := by kernel_rfl
theorem rt80_1 : rtT 80 1 = true := by kernel_rfl
theorem rt80_2 : rtT 80 2 = true := by kernel_rfl
theorem rt80_3 : rtT 80 3 = true := by kernel_rfl
theorem rt80_4 : rtT 80 4 = true := by kernel_rfl
theorem rt80_5 : rtT 80 5 = true := by kernel_rfl
theorem Rtp_ok (L : Nat) (h1 : 76 ≤ L) (h2 : L ≤ 80) : RtOk L := by
  obtain rfl | rfl | rfl | rfl | rfl : L = 76 ∨ L = 77 ∨ L = 78 ∨ L = 79 ∨ L = 80 := by omega
  · exact .of rt76_a rt76_b rt76_1 rt76_2 rt76_3 rt76_4 rt76_5
  · exact .of rt77_a rt77_b rt77_1 rt77_2 rt77_3 rt77_4 rt77_5
  · exact .of rt78_a rt78_b rt78_1 rt78_2 rt78_3 rt78_4 rt78_5
  · exact .of rt79_a rt79_b rt79_1 rt79_2 rt79_3 rt79_4 rt79_5
  · exact .of rt80_a rt80_b rt80_1 rt80_2 rt80_3 rt80_4 rt80_5
end Go.Proofs.YtdhkebolenbpiaaGreatDoor.X

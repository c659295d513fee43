/- NodeRetries: the runs for keys of 36 to 40 bytes. -/
import Derived.Test.YtdhkebolenbpiaaGreatDoorRd
namespace Go.Proofs.YtdhkebolenbpiaaGreatDoor.X
open Go.RowKit S
theorem rt36_a : rtA 36 = true := by kernel_rfl
theorem rt36_b : rtB 36 = true := by kernel_rfl
theorem rt36_1 : rtT 36 1 = true := by kernel_rfl
theorem rt36_2 : rtT 36 2 = true := by kernel_rfl
theorem rt36_3 : rtT 36 3 = true := by kernel_rfl
theorem rt36_4 : rtT 36 4 = true := by kernel_rfl
theorem rt36_5 : rtT 36 5 = true := by kernel_rfl
theorem rt37_a : rtA 37 = true := by kernel_rfl
theorem rt37_b : rtB 37 = true := by kernel_rfl
theorem rt37_1 : rtT 37 1 = true := by kernel_rfl
theorem rt37_2 : rtT 37 2 = true := by kernel_rfl
theorem rt37_3 : rtT 37 3 = true := by kernel_rfl
theorem rt37_4 : rtT 37 4 = true := by kernel_rfl
theorem rt37_5 : rtT 37 5 = true := by kernel_rfl
theorem rt38_a : rtA 38 = true := by kernel_rfl
theorem rt38_b : rtB 38 = true := by kernel_rfl
theorem rt38_1 : rtT 38 1 = true := by kernel_rfl
theorem rt38_2 : rtT 38 2 = true := by kernel_rfl
theorem rt38_3 : rtT 38 3 = true := by kernel_rfl
theorem rt38_4 : rtT 38 4 = true := by kernel_rfl
theorem rt38_5 : rtT 38 5 = true := by kernel_rfl
theorem rt39_a : rtA 39 = true := by kernel_rfl
theorem rt39_b : rtB 39 = true := by kernel_rfl
theorem rt39_1 : rtT 39 1 = true := by kernel_rfl
theorem rt39_2 : rtT 39 2 = true := by kernel_rfl
theorem rt39_3 : rtT 39 3 = true := by kernel_rfl
theorem rt39_4 : rtT 39 4 = true := by kernel_rfl
theorem rt39_5 : rtT 39 5 = true := by kernel_rfl
theorem rt40_a : rtA 40 = true := by kernel_rfl
theorem rt40_b : rtB 40 = true := by kernel_rfl
theorem rt40_1 : rtT 40 1 = true := by kernel_rfl
theorem rt40_2 : rtT 40 2 = true := by kernel_rfl
theorem rt40_3 : rtT 40 3 = true := by kernel_rfl
theorem rt40_4 : rtT 40 4 = true := by kernel_rfl
theorem rt40_5 : rtT 40 5 = true := by kernel_rfl
theorem Rth_ok (L : Nat) (h1 : 36 ≤ L) (h2 : L ≤ 40) : RtOk L := by
  obtain rfl | rfl | rfl | rfl | rfl : L = 36 ∨ L = 37 ∨ L = 38 ∨ L = 39 ∨ L = 40 := by omega
  · exact .of rt36_a rt36_b rt36_1 rt36_2 rt36_3 rt36_4 rt36_5
  · exact .of rt37_a rt37_b rt37_1 rt37_2 rt37_3 rt37_4 rt37_5
  · exact .of rt38_a rt38_b rt38_1 rt38_2 rt38_3 rt38_4 rt38_5
  · exact .of rt39_a rt39_b rt39_1 rt39_2 rt39_3 rt39_4 rt39_5
  · exact .of rt40_a rt40_b rt40_1 rt40_2 rt40_3 rt40_4 rt40_5
end Go.Proofs.YtdhkebolenbpiaaGreatDoor.X

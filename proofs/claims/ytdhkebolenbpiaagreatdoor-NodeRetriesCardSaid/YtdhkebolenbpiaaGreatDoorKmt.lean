/- The tables of unicode/utf8. -/
import Derived.Test.YtdhkebolenbpiaaGreatDoorKnn
import Derived.Test.YtdhkebolenbpiaaGreatDoorProg
import Derived.KernelRfl
namespace Go.Proofs.YtdhkebolenbpiaaGreatDoor
/-- The library's tables lie as they were laid. -/
def Tabs (w : World) : Prop := Lib.Utf8Tabs 2 3 w
theorem X.follows : Tryz.prog.follows .mixedOrders = true := by kernel_rfl
end Go.Proofs.YtdhkebolenbpiaaGreatDoor

/- The tables of unicode/utf8. -/
import Derived.Test.YtkmjdfcfcfmkdaaGreatDoorKnl
import Derived.Test.YtkmjdfcfcfmkdaaGreatDoorProg
import Derived.KernelRfl
namespace Go.Proofs.YtkmjdfcfcfmkdaaGreatDoor
/-- The library's tables lie as they were laid. -/
def Tabs (w : World) : Prop := Lib.Utf8Tabs 1 2 w
theorem X.follows : Tryz.prog.follows .mixedOrders = true := by kernel_rfl
end Go.Proofs.YtkmjdfcfcfmkdaaGreatDoor

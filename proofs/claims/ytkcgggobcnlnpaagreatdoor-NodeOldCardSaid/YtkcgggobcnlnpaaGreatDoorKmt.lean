/- The tables of unicode/utf8. -/
import Derived.Test.YtkcgggobcnlnpaaGreatDoorKnm
import Derived.Test.YtkcgggobcnlnpaaGreatDoorProg
import Derived.KernelRfl
namespace Go.Proofs.YtkcgggobcnlnpaaGreatDoor
/-- The library's tables lie as they were laid. -/
def Tabs (w : World) : Prop := Lib.Utf8Tabs 0 1 w
theorem X.follows : Tryz.prog.follows .mixedOrders = true := by kernel_rfl
end Go.Proofs.YtkcgggobcnlnpaaGreatDoor

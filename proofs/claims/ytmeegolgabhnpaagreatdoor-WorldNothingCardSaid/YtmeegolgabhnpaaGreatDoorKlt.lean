/- The tables of unicode/utf8. -/
import Derived.Test.YtmeegolgabhnpaaGreatDoorKrg
import Derived.Test.YtmeegolgabhnpaaGreatDoorProg
namespace Go.Proofs.YtmeegolgabhnpaaGreatDoor
/-- The library's tables lie as they were laid. -/
def Tabs (w : World) : Prop := Lib.Utf8Tabs 3 4 w
end Go.Proofs.YtmeegolgabhnpaaGreatDoor

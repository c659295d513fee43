/-
  DERIVED. GIVEN WITH THE SEED: THE CARDS: each row of YtkcgggobcnlnpaaGreatDoorRows.lean that lists a variable, with what it lists TIED to the program's text (the seventh form; the later family's looks); each row that meets fmt, with fmt's text TOLD by the authors' own Lean function (tested against real Go, not proved from fmt's source: count such statements apart). THE CARD IS WHAT COUNTS. Prove the row's statement (the work); the ties are given (YtkcgggobcnlnpaaGreatDoorTie.lean); close each card by the builder's one call (the guide's Derived/Test/ToyasCard.lean, 'card_holds'). Laid BY PROGRAM, IN A SANDBOX (cutbox-door.mjs). By AI agents, Wed Nov 11 2026. No macro, syntax, notation, axiom, sorry.
-/
import Derived.Test.YtkcgggobcnlnpaaGreatDoorRows
import GoSem.ClaimSeven
namespace Go.Proofs.YtkcgggobcnlnpaaGreatDoor
namespace Rows

/-- THE TIED CARD OF 'penstocklaw24.NodeOld'. -/
def nodeOldCard : Claim7 := { stood := { row := nodeOldRow, standIns := [], harness := (true, "812fd23c7a0229c52b16edace2ae71922f317da684f6c4abf1597a9e61e87eb1"), looks := true }, kinds := [], alts := [], laidByText := true, laidKinds := [.data, .data, .data, .sentinel, .sentinel, .pinned, .data], laidTests := true, laidLooks := .later }
def NodeOldCardSaid : Prop := Claim7.holds Tryz.pinned (.plain (OpenSpec.ofChange nodeOldSpec)) nodeOldCard

/-- THE SECOND FORM's CARD OF 'penstocklaw24.NodeOld'. -/
def nodeOldUptoCard : Claim7 := { stood := { row := nodeOldUptoRow, standIns := [], harness := (true, "812fd23c7a0229c52b16edace2ae71922f317da684f6c4abf1597a9e61e87eb1"), looks := true }, kinds := [], alts := [], laidByText := true, laidKinds := [.data, .data, .data, .sentinel, .sentinel, .pinned, .data], laidTests := true, laidLooks := .later }
def NodeOldUptoCardSaid : Prop := Claim7.holds Tryz.pinned (.plain (OpenSpec.upto nodeOldSpec)) nodeOldUptoCard
end Rows
end Go.Proofs.YtkcgggobcnlnpaaGreatDoor

/-
  DERIVED. GIVEN WITH THE SEED: THE CARDS: each row of YtdhkebolenbpiaaGreatDoorRows.lean that lists a variable, with what it lists TIED to the program's text (the seventh form; the later family's looks); each row that meets fmt, with fmt's text TOLD by the authors' own Lean function (tested against real Go, not proved from fmt's source: count such statements apart). THE CARD IS WHAT COUNTS. Prove the row's statement (the work); the ties are given (YtdhkebolenbpiaaGreatDoorTie.lean); close each card by the builder's one call (the guide's Derived/Test/ToyasCard.lean, 'card_holds'). Laid BY PROGRAM, IN A SANDBOX (cutbox-door.mjs). By AI agents, Wed Nov 11 2026. No macro, syntax, notation, axiom, sorry.
-/
import Derived.Test.YtdhkebolenbpiaaGreatDoorRows
import GoSem.ClaimSeven
namespace Go.Proofs.YtdhkebolenbpiaaGreatDoor
namespace Rows

/-- THE TIED CARD OF 'penstocklaw24.NodeRetries'. -/
def nodeRetriesCard : Claim7 := { stood := { row := nodeRetriesRow, standIns := [], harness := (true, "37308058a0e5f6f8c45a5fcea61946e4faea5a7dc4add84aa1ca99da173dcf06"), looks := true }, kinds := [], alts := [], laidByText := true, laidKinds := [.data, .data, .data, .data, .sentinel, .sentinel, .pinned], laidTests := true, laidLooks := .later }
def NodeRetriesCardSaid : Prop := Claim7.holds Tryz.pinned (.plain (OpenSpec.ofChange nodeRetriesSpec)) nodeRetriesCard

/-- THE SECOND FORM's CARD OF 'penstocklaw24.NodeRetries'. -/
def nodeRetriesUptoCard : Claim7 := { stood := { row := nodeRetriesUptoRow, standIns := [], harness := (true, "37308058a0e5f6f8c45a5fcea61946e4faea5a7dc4add84aa1ca99da173dcf06"), looks := true }, kinds := [], alts := [], laidByText := true, laidKinds := [.data, .data, .data, .data, .sentinel, .sentinel, .pinned], laidTests := true, laidLooks := .later }
def NodeRetriesUptoCardSaid : Prop := Claim7.holds Tryz.pinned (.plain (OpenSpec.upto nodeRetriesSpec)) nodeRetriesUptoCard
end Rows
end Go.Proofs.YtdhkebolenbpiaaGreatDoor

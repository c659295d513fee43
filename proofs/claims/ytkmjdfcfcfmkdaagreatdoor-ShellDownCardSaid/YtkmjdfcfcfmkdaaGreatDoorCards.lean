/-
  DERIVED. GIVEN WITH THE SEED: THE CARDS: each row of YtkmjdfcfcfmkdaaGreatDoorRows.lean that lists a variable, with what it lists TIED to the program's text (the seventh form; the later family's looks); each row that meets fmt, with fmt's text TOLD by the authors' own Lean function (tested against real Go, not proved from fmt's source: count such statements apart). THE CARD IS WHAT COUNTS. Prove the row's statement (the work); the ties are given (YtkmjdfcfcfmkdaaGreatDoorTie.lean); close each card by the builder's one call (the guide's Derived/Test/ToyasCard.lean, 'card_holds'). Laid BY PROGRAM, IN A SANDBOX (cutbox-door.mjs). By AI agents, Wed Nov 11 2026. No macro, syntax, notation, axiom, sorry.
-/
import Derived.Test.YtkmjdfcfcfmkdaaGreatDoorRows
import GoSem.ClaimSeven
namespace Go.Proofs.YtkmjdfcfcfmkdaaGreatDoor
namespace Rows

/-- THE TIED CARD OF 'penstocklaw30.ShellNumbers'. -/
def shellNumbersCard : Claim7 := { stood := { row := shellNumbersRow, standIns := [], harness := (true, "9b296c8c8cc6b3b3355f1f6bbf2a9e8b17234c2bd0c9a0a2013ffffc8d59d9bd"), looks := true }, kinds := [], alts := [], laidByText := true, laidKinds := [.pinned, .data, .sentinel, .sentinel, .data, .data, .data], laidTests := true, laidLooks := .later }
def ShellNumbersCardSaid : Prop := Claim7.holds Tryz.pinned (.plain (OpenSpec.ofChange shellNumbersSpec)) shellNumbersCard

/-- THE TIED CARD OF 'penstocklaw30.ShellDown'. -/
def shellDownCard : Claim7 := { stood := { row := shellDownRow, standIns := [], harness := (true, "9b296c8c8cc6b3b3355f1f6bbf2a9e8b17234c2bd0c9a0a2013ffffc8d59d9bd"), looks := true }, kinds := [], alts := [], laidByText := true, laidKinds := [.pinned, .data, .sentinel, .sentinel, .data, .data, .data], laidTests := true, laidLooks := .later }
def ShellDownCardSaid : Prop := Claim7.holds Tryz.pinned (.plain (OpenSpec.ofChange shellDownSpec)) shellDownCard

/-- THE SECOND FORM's CARD OF 'penstocklaw30.ShellNumbers'. -/
def shellNumbersUptoCard : Claim7 := { stood := { row := shellNumbersUptoRow, standIns := [], harness := (true, "9b296c8c8cc6b3b3355f1f6bbf2a9e8b17234c2bd0c9a0a2013ffffc8d59d9bd"), looks := true }, kinds := [], alts := [], laidByText := true, laidKinds := [.pinned, .data, .sentinel, .sentinel, .data, .data, .data], laidTests := true, laidLooks := .later }
def ShellNumbersUptoCardSaid : Prop := Claim7.holds Tryz.pinned (.plain (OpenSpec.upto shellNumbersSpec)) shellNumbersUptoCard

/-- THE SECOND FORM's CARD OF 'penstocklaw30.ShellDown'. -/
def shellDownUptoCard : Claim7 := { stood := { row := shellDownUptoRow, standIns := [], harness := (true, "9b296c8c8cc6b3b3355f1f6bbf2a9e8b17234c2bd0c9a0a2013ffffc8d59d9bd"), looks := true }, kinds := [], alts := [], laidByText := true, laidKinds := [.pinned, .data, .sentinel, .sentinel, .data, .data, .data], laidTests := true, laidLooks := .later }
def ShellDownUptoCardSaid : Prop := Claim7.holds Tryz.pinned (.plain (OpenSpec.upto shellDownSpec)) shellDownUptoCard
end Rows
end Go.Proofs.YtkmjdfcfcfmkdaaGreatDoor

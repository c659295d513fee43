/-
  DERIVED. GIVEN WITH THE SEED: THE CARDS: each row of YteooccaicheleaaGreatDoorRows.lean that lists a variable, with what it lists TIED to the program's text (the seventh form; the later family's looks); each row that meets fmt, with fmt's text TOLD by the authors' own Lean function (tested against real Go, not proved from fmt's source: count such statements apart). THE CARD IS WHAT COUNTS. Prove the row's statement (the work); the ties are given (YteooccaicheleaaGreatDoorTie.lean); close each card by the builder's one call (the guide's Derived/Test/ToyasCard.lean, 'card_holds'). Laid BY PROGRAM, IN A SANDBOX (cutbox-door.mjs). By AI agents, Wed Nov 11 2026. No macro, syntax, notation, axiom, sorry.
-/
import Derived.Test.YteooccaicheleaaGreatDoorRows
import GoSem.ClaimSeven
namespace Go.Proofs.YteooccaicheleaaGreatDoor
namespace Rows

/-- THE TIED CARD OF 'penstocklaw24.NodeKeeps'. -/
def nodeKeepsCard : Claim7 := { stood := { row := nodeKeepsRow, standIns := [], harness := (true, "cd75647a3f6347451b3d6333484eaea04ce94904dfab51fcec0a6d6c96b0cbaf"), looks := true }, kinds := [], alts := [], laidByText := true, laidKinds := [.data, .data, .data, .sentinel, .sentinel, .pinned, .data], laidTests := true, laidLooks := .later }
def NodeKeepsCardSaid : Prop := Claim7.holds Tryz.pinned (.plain (OpenSpec.ofChange nodeKeepsSpec)) nodeKeepsCard

/-- THE TIED CARD OF 'penstocklaw26.WorldKeeps'. -/
def worldKeepsCard : Claim7 := { stood := { row := worldKeepsRow, standIns := [], harness := (true, "cd75647a3f6347451b3d6333484eaea04ce94904dfab51fcec0a6d6c96b0cbaf"), looks := true }, kinds := [], alts := [], laidByText := true, laidKinds := [.data, .data, .data, .sentinel, .sentinel, .pinned, .data], laidTests := true, laidLooks := .later }
def WorldKeepsCardSaid : Prop := Claim7.holds Tryz.pinned (.plain (OpenSpec.ofChange worldKeepsSpec)) worldKeepsCard

/-- THE TIED CARD OF 'penstocklaw30.ShellLong'. -/
def shellLongCard : Claim7 := { stood := { row := shellLongRow, standIns := [], harness := (true, "cd75647a3f6347451b3d6333484eaea04ce94904dfab51fcec0a6d6c96b0cbaf"), looks := true }, kinds := [], alts := [], laidByText := true, laidKinds := [.pinned, .data, .sentinel, .sentinel, .data, .data, .data], laidTests := true, laidLooks := .later }
def ShellLongCardSaid : Prop := Claim7.holds Tryz.pinned (.plain (OpenSpec.ofChange shellLongSpec)) shellLongCard

/-- THE TIED CARD OF 'penstocklaw30.ShellCalls'. -/
def shellCallsCard : Claim7 := { stood := { row := shellCallsRow, standIns := [], harness := (true, "cd75647a3f6347451b3d6333484eaea04ce94904dfab51fcec0a6d6c96b0cbaf"), looks := true }, kinds := [], alts := [], laidByText := true, laidKinds := [.pinned, .data, .sentinel, .sentinel, .data, .data, .data], laidTests := true, laidLooks := .later }
def ShellCallsCardSaid : Prop := Claim7.holds Tryz.pinned (.plain (OpenSpec.ofChange shellCallsSpec)) shellCallsCard

/-- THE SECOND FORM's CARD OF 'penstocklaw24.NodeKeeps'. -/
def nodeKeepsUptoCard : Claim7 := { stood := { row := nodeKeepsUptoRow, standIns := [], harness := (true, "cd75647a3f6347451b3d6333484eaea04ce94904dfab51fcec0a6d6c96b0cbaf"), looks := true }, kinds := [], alts := [], laidByText := true, laidKinds := [.data, .data, .data, .sentinel, .sentinel, .pinned, .data], laidTests := true, laidLooks := .later }
def NodeKeepsUptoCardSaid : Prop := Claim7.holds Tryz.pinned (.plain (OpenSpec.upto nodeKeepsSpec)) nodeKeepsUptoCard

/-- THE SECOND FORM's CARD OF 'penstocklaw26.WorldKeeps'. -/
def worldKeepsUptoCard : Claim7 := { stood := { row := worldKeepsUptoRow, standIns := [], harness := (true, "cd75647a3f6347451b3d6333484eaea04ce94904dfab51fcec0a6d6c96b0cbaf"), looks := true }, kinds := [], alts := [], laidByText := true, laidKinds := [.data, .data, .data, .sentinel, .sentinel, .pinned, .data], laidTests := true, laidLooks := .later }
def WorldKeepsUptoCardSaid : Prop := Claim7.holds Tryz.pinned (.plain (OpenSpec.upto worldKeepsSpec)) worldKeepsUptoCard

/-- THE SECOND FORM's CARD OF 'penstocklaw30.ShellLong'. -/
def shellLongUptoCard : Claim7 := { stood := { row := shellLongUptoRow, standIns := [], harness := (true, "cd75647a3f6347451b3d6333484eaea04ce94904dfab51fcec0a6d6c96b0cbaf"), looks := true }, kinds := [], alts := [], laidByText := true, laidKinds := [.pinned, .data, .sentinel, .sentinel, .data, .data, .data], laidTests := true, laidLooks := .later }
def ShellLongUptoCardSaid : Prop := Claim7.holds Tryz.pinned (.plain (OpenSpec.upto shellLongSpec)) shellLongUptoCard

/-- THE SECOND FORM's CARD OF 'penstocklaw30.ShellCalls'. -/
def shellCallsUptoCard : Claim7 := { stood := { row := shellCallsUptoRow, standIns := [], harness := (true, "cd75647a3f6347451b3d6333484eaea04ce94904dfab51fcec0a6d6c96b0cbaf"), looks := true }, kinds := [], alts := [], laidByText := true, laidKinds := [.pinned, .data, .sentinel, .sentinel, .data, .data, .data], laidTests := true, laidLooks := .later }
def ShellCallsUptoCardSaid : Prop := Claim7.holds Tryz.pinned (.plain (OpenSpec.upto shellCallsSpec)) shellCallsUptoCard
end Rows
end Go.Proofs.YteooccaicheleaaGreatDoor

/-
  DERIVED. GIVEN WITH THE SEED: THE CARDS: each row of YtpgocpodhamibaaGreatDoorRows.lean that lists a variable, with what it lists TIED to the program's text (the seventh form; the later family's looks); each row that meets fmt, with fmt's text TOLD by the authors' own Lean function (tested against real Go, not proved from fmt's source: count such statements apart). THE CARD IS WHAT COUNTS. Prove the row's statement (the work); the ties are given (YtpgocpodhamibaaGreatDoorTie.lean); close each card by the builder's one call (the guide's Derived/Test/ToyasCard.lean, 'card_holds'). Laid BY PROGRAM, IN A SANDBOX (cutbox-door.mjs). By AI agents, Wed Nov 11 2026. No macro, syntax, notation, axiom, sorry.
-/
import Derived.Test.YtpgocpodhamibaaGreatDoorRows
import GoSem.ClaimSeven
namespace Go.Proofs.YtpgocpodhamibaaGreatDoor
namespace Rows

/-- THE TIED CARD OF 'penstocklaw15.StateOnce'. -/
def stateOnceCard : Claim7 := { stood := { row := stateOnceRow, standIns := [], harness := (true, "81e48e3176a2dbf9b60eb8153578aaa5fcd2a84a553f7400726290e84caa002f"), looks := true }, kinds := [], alts := [], laidByText := true, laidKinds := [.data, .pinned], laidTests := true, laidLooks := .later }
def StateOnceCardSaid : Prop := Claim7.holds Tryz.pinned (.plain (OpenSpec.ofChange stateOnceSpec)) stateOnceCard

/-- THE TIED CARD OF 'penstocklaw15.StateRanges'. -/
def stateRangesCard : Claim7 := { stood := { row := stateRangesRow, standIns := [], harness := (true, "81e48e3176a2dbf9b60eb8153578aaa5fcd2a84a553f7400726290e84caa002f"), looks := true }, kinds := [], alts := [], laidByText := true, laidKinds := [.data, .pinned], laidTests := true, laidLooks := .later }
def StateRangesCardSaid : Prop := Claim7.holds Tryz.pinned (.plain (OpenSpec.ofChange stateRangesSpec)) stateRangesCard

/-- THE TIED CARD OF 'penstocklaw15.StateVersions'. -/
def stateVersionsCard : Claim7 := { stood := { row := stateVersionsRow, standIns := [], harness := (true, "81e48e3176a2dbf9b60eb8153578aaa5fcd2a84a553f7400726290e84caa002f"), looks := true }, kinds := [], alts := [], laidByText := true, laidKinds := [.data, .pinned], laidTests := true, laidLooks := .later }
def StateVersionsCardSaid : Prop := Claim7.holds Tryz.pinned (.plain (OpenSpec.ofChange stateVersionsSpec)) stateVersionsCard

/-- THE TIED CARD OF 'penstocklaw15.StateMay'. -/
def stateMayCard : Claim7 := { stood := { row := stateMayRow, standIns := [], harness := (true, "81e48e3176a2dbf9b60eb8153578aaa5fcd2a84a553f7400726290e84caa002f"), looks := true }, kinds := [], alts := [], laidByText := true, laidKinds := [.data, .pinned], laidTests := true, laidLooks := .later }
def StateMayCardSaid : Prop := Claim7.holds Tryz.pinned (.plain (OpenSpec.ofChange stateMaySpec)) stateMayCard

/-- THE TIED CARD OF 'penstocklaw15.StateNothing'. -/
def stateNothingCard : Claim7 := { stood := { row := stateNothingRow, standIns := [], harness := (true, "81e48e3176a2dbf9b60eb8153578aaa5fcd2a84a553f7400726290e84caa002f"), looks := true }, kinds := [], alts := [], laidByText := true, laidKinds := [.data, .pinned], laidTests := true, laidLooks := .later }
def StateNothingCardSaid : Prop := Claim7.holds Tryz.pinned (.plain (OpenSpec.ofChange stateNothingSpec)) stateNothingCard

/-- THE TIED CARD OF 'penstocklaw15.StateLearns'. -/
def stateLearnsCard : Claim7 := { stood := { row := stateLearnsRow, standIns := [], harness := (true, "81e48e3176a2dbf9b60eb8153578aaa5fcd2a84a553f7400726290e84caa002f"), looks := true }, kinds := [], alts := [], laidByText := true, laidKinds := [.data, .pinned], laidTests := true, laidLooks := .later }
def StateLearnsCardSaid : Prop := Claim7.holds Tryz.pinned (.plain (OpenSpec.ofChange stateLearnsSpec)) stateLearnsCard

/-- THE TIED CARD OF 'penstocklaw15.StateWhole'. -/
def stateWholeCard : Claim7 := { stood := { row := stateWholeRow, standIns := [], harness := (true, "81e48e3176a2dbf9b60eb8153578aaa5fcd2a84a553f7400726290e84caa002f"), looks := true }, kinds := [], alts := [], laidByText := true, laidKinds := [.data, .pinned], laidTests := true, laidLooks := .later }
def StateWholeCardSaid : Prop := Claim7.holds Tryz.pinned (.plain (OpenSpec.ofChange stateWholeSpec)) stateWholeCard

/-- THE TIED CARD OF 'penstocklaw15.StateSame'. -/
def stateSameCard : Claim7 := { stood := { row := stateSameRow, standIns := [], harness := (true, "81e48e3176a2dbf9b60eb8153578aaa5fcd2a84a553f7400726290e84caa002f"), looks := true }, kinds := [], alts := [], laidByText := true, laidKinds := [.data, .pinned], laidTests := true, laidLooks := .later }
def StateSameCardSaid : Prop := Claim7.holds Tryz.pinned (.plain (OpenSpec.ofChange stateSameSpec)) stateSameCard

/-- THE TIED CARD OF 'penstocklaw23.HandGreat'. -/
def handGreatCard : Claim7 := { stood := { row := handGreatRow, standIns := [], harness := (true, "81e48e3176a2dbf9b60eb8153578aaa5fcd2a84a553f7400726290e84caa002f"), looks := true }, kinds := [], alts := [], laidByText := true, laidKinds := [.data, .pinned], laidTests := true, laidLooks := .later }
def HandGreatCardSaid : Prop := Claim7.holds Tryz.pinned (.plain (OpenSpec.ofChange handGreatSpec)) handGreatCard

/-- THE TIED CARD OF 'penstocklaw19.WaterMarks'. -/
def waterMarksCard : Claim7 := { stood := { row := waterMarksRow, standIns := [], harness := (true, "81e48e3176a2dbf9b60eb8153578aaa5fcd2a84a553f7400726290e84caa002f"), looks := true }, kinds := [], alts := [], laidByText := true, laidKinds := [.data, .pinned], laidTests := true, laidLooks := .later }
def WaterMarksCardSaid : Prop := Claim7.holds Tryz.pinned (.plain (OpenSpec.ofChange waterMarksSpec)) waterMarksCard

/-- THE TIED CARD OF 'penstocklaw23.HandFence'. -/
def handFenceCard : Claim7 := { stood := { row := handFenceRow, standIns := [], harness := (true, "81e48e3176a2dbf9b60eb8153578aaa5fcd2a84a553f7400726290e84caa002f"), looks := true }, kinds := [], alts := [], laidByText := true, laidKinds := [.data, .pinned], laidTests := true, laidLooks := .later }
def HandFenceCardSaid : Prop := Claim7.holds Tryz.pinned (.plain (OpenSpec.ofChange handFenceSpec)) handFenceCard

/-- THE TIED CARD OF 'penstocklaw21.PartDrift'. -/
def partDriftCard : Claim7 := { stood := { row := partDriftRow, standIns := [], harness := (true, "81e48e3176a2dbf9b60eb8153578aaa5fcd2a84a553f7400726290e84caa002f"), looks := true }, kinds := [], alts := [], laidByText := true, laidKinds := [.data, .pinned], laidTests := true, laidLooks := .later }
def PartDriftCardSaid : Prop := Claim7.holds Tryz.pinned (.plain (OpenSpec.ofChange partDriftSpec)) partDriftCard

/-- THE SECOND FORM's CARD OF 'penstocklaw15.StateOnce'. -/
def stateOnceUptoCard : Claim7 := { stood := { row := stateOnceUptoRow, standIns := [], harness := (true, "81e48e3176a2dbf9b60eb8153578aaa5fcd2a84a553f7400726290e84caa002f"), looks := true }, kinds := [], alts := [], laidByText := true, laidKinds := [.data, .pinned], laidTests := true, laidLooks := .later }
def StateOnceUptoCardSaid : Prop := Claim7.holds Tryz.pinned (.plain (OpenSpec.upto stateOnceSpec)) stateOnceUptoCard

/-- THE SECOND FORM's CARD OF 'penstocklaw15.StateRanges'. -/
def stateRangesUptoCard : Claim7 := { stood := { row := stateRangesUptoRow, standIns := [], harness := (true, "81e48e3176a2dbf9b60eb8153578aaa5fcd2a84a553f7400726290e84caa002f"), looks := true }, kinds := [], alts := [], laidByText := true, laidKinds := [.data, .pinned], laidTests := true, laidLooks := .later }
def StateRangesUptoCardSaid : Prop := Claim7.holds Tryz.pinned (.plain (OpenSpec.upto stateRangesSpec)) stateRangesUptoCard

/-- THE SECOND FORM's CARD OF 'penstocklaw15.StateVersions'. -/
def stateVersionsUptoCard : Claim7 := { stood := { row := stateVersionsUptoRow, standIns := [], harness := (true, "81e48e3176a2dbf9b60eb8153578aaa5fcd2a84a553f7400726290e84caa002f"), looks := true }, kinds := [], alts := [], laidByText := true, laidKinds := [.data, .pinned], laidTests := true, laidLooks := .later }
def StateVersionsUptoCardSaid : Prop := Claim7.holds Tryz.pinned (.plain (OpenSpec.upto stateVersionsSpec)) stateVersionsUptoCard

/-- THE SECOND FORM's CARD OF 'penstocklaw15.StateMay'. -/
def stateMayUptoCard : Claim7 := { stood := { row := stateMayUptoRow, standIns := [], harness := (true, "81e48e3176a2dbf9b60eb8153578aaa5fcd2a84a553f7400726290e84caa002f"), looks := true }, kinds := [], alts := [], laidByText := true, laidKinds := [.data, .pinned], laidTests := true, laidLooks := .later }
def StateMayUptoCardSaid : Prop := Claim7.holds Tryz.pinned (.plain (OpenSpec.upto stateMaySpec)) stateMayUptoCard

/-- THE SECOND FORM's CARD OF 'penstocklaw15.StateNothing'. -/
def stateNothingUptoCard : Claim7 := { stood := { row := stateNothingUptoRow, standIns := [], harness := (true, "81e48e3176a2dbf9b60eb8153578aaa5fcd2a84a553f7400726290e84caa002f"), looks := true }, kinds := [], alts := [], laidByText := true, laidKinds := [.data, .pinned], laidTests := true, laidLooks := .later }
def StateNothingUptoCardSaid : Prop := Claim7.holds Tryz.pinned (.plain (OpenSpec.upto stateNothingSpec)) stateNothingUptoCard

/-- THE SECOND FORM's CARD OF 'penstocklaw15.StateLearns'. -/
def stateLearnsUptoCard : Claim7 := { stood := { row := stateLearnsUptoRow, standIns := [], harness := (true, "81e48e3176a2dbf9b60eb8153578aaa5fcd2a84a553f7400726290e84caa002f"), looks := true }, kinds := [], alts := [], laidByText := true, laidKinds := [.data, .pinned], laidTests := true, laidLooks := .later }
def StateLearnsUptoCardSaid : Prop := Claim7.holds Tryz.pinned (.plain (OpenSpec.upto stateLearnsSpec)) stateLearnsUptoCard

/-- THE SECOND FORM's CARD OF 'penstocklaw15.StateWhole'. -/
def stateWholeUptoCard : Claim7 := { stood := { row := stateWholeUptoRow, standIns := [], harness := (true, "81e48e3176a2dbf9b60eb8153578aaa5fcd2a84a553f7400726290e84caa002f"), looks := true }, kinds := [], alts := [], laidByText := true, laidKinds := [.data, .pinned], laidTests := true, laidLooks := .later }
def StateWholeUptoCardSaid : Prop := Claim7.holds Tryz.pinned (.plain (OpenSpec.upto stateWholeSpec)) stateWholeUptoCard

/-- THE SECOND FORM's CARD OF 'penstocklaw15.StateSame'. -/
def stateSameUptoCard : Claim7 := { stood := { row := stateSameUptoRow, standIns := [], harness := (true, "81e48e3176a2dbf9b60eb8153578aaa5fcd2a84a553f7400726290e84caa002f"), looks := true }, kinds := [], alts := [], laidByText := true, laidKinds := [.data, .pinned], laidTests := true, laidLooks := .later }
def StateSameUptoCardSaid : Prop := Claim7.holds Tryz.pinned (.plain (OpenSpec.upto stateSameSpec)) stateSameUptoCard

/-- THE SECOND FORM's CARD OF 'penstocklaw23.HandGreat'. -/
def handGreatUptoCard : Claim7 := { stood := { row := handGreatUptoRow, standIns := [], harness := (true, "81e48e3176a2dbf9b60eb8153578aaa5fcd2a84a553f7400726290e84caa002f"), looks := true }, kinds := [], alts := [], laidByText := true, laidKinds := [.data, .pinned], laidTests := true, laidLooks := .later }
def HandGreatUptoCardSaid : Prop := Claim7.holds Tryz.pinned (.plain (OpenSpec.upto handGreatSpec)) handGreatUptoCard

/-- THE SECOND FORM's CARD OF 'penstocklaw19.WaterMarks'. -/
def waterMarksUptoCard : Claim7 := { stood := { row := waterMarksUptoRow, standIns := [], harness := (true, "81e48e3176a2dbf9b60eb8153578aaa5fcd2a84a553f7400726290e84caa002f"), looks := true }, kinds := [], alts := [], laidByText := true, laidKinds := [.data, .pinned], laidTests := true, laidLooks := .later }
def WaterMarksUptoCardSaid : Prop := Claim7.holds Tryz.pinned (.plain (OpenSpec.upto waterMarksSpec)) waterMarksUptoCard

/-- THE SECOND FORM's CARD OF 'penstocklaw23.HandFence'. -/
def handFenceUptoCard : Claim7 := { stood := { row := handFenceUptoRow, standIns := [], harness := (true, "81e48e3176a2dbf9b60eb8153578aaa5fcd2a84a553f7400726290e84caa002f"), looks := true }, kinds := [], alts := [], laidByText := true, laidKinds := [.data, .pinned], laidTests := true, laidLooks := .later }
def HandFenceUptoCardSaid : Prop := Claim7.holds Tryz.pinned (.plain (OpenSpec.upto handFenceSpec)) handFenceUptoCard

/-- THE SECOND FORM's CARD OF 'penstocklaw21.PartDrift'. -/
def partDriftUptoCard : Claim7 := { stood := { row := partDriftUptoRow, standIns := [], harness := (true, "81e48e3176a2dbf9b60eb8153578aaa5fcd2a84a553f7400726290e84caa002f"), looks := true }, kinds := [], alts := [], laidByText := true, laidKinds := [.data, .pinned], laidTests := true, laidLooks := .later }
def PartDriftUptoCardSaid : Prop := Claim7.holds Tryz.pinned (.plain (OpenSpec.upto partDriftSpec)) partDriftUptoCard
end Rows
end Go.Proofs.YtpgocpodhamibaaGreatDoor

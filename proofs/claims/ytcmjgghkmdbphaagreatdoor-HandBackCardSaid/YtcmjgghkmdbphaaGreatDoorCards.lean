/-
  DERIVED. GIVEN WITH THE SEED: THE CARDS: each row of YtcmjgghkmdbphaaGreatDoorRows.lean that lists a variable, with what it lists TIED to the program's text (the seventh form; the later family's looks); each row that meets fmt, with fmt's text TOLD by the authors' own Lean function (tested against real Go, not proved from fmt's source: count such statements apart). THE CARD IS WHAT COUNTS. Prove the row's statement (the work); the ties are given (YtcmjgghkmdbphaaGreatDoorTie.lean); close each card by the builder's one call (the guide's Derived/Test/ToyasCard.lean, 'card_holds'). Laid BY PROGRAM, IN A SANDBOX (cutbox-door.mjs). By AI agents, Wed Nov 11 2026. No macro, syntax, notation, axiom, sorry.
-/
import Derived.Test.YtcmjgghkmdbphaaGreatDoorRows
import GoSem.ClaimSeven
namespace Go.Proofs.YtcmjgghkmdbphaaGreatDoor
namespace Rows

/-- THE TIED CARD OF 'penstocklaw15.StateMay'. -/
def stateMayCard : Claim7 := { stood := { row := stateMayRow, standIns := [], harness := (true, "150ffe4eb0b13d68743cdb764ff8e792438679e6b6dbb8d8b9a218bf519dba42"), looks := true }, kinds := [], alts := [], laidByText := true, laidKinds := [.data, .pinned], laidTests := true, laidLooks := .later }
def StateMayCardSaid : Prop := Claim7.holds Tryz.pinned (.plain (OpenSpec.ofChange stateMaySpec)) stateMayCard

/-- THE TIED CARD OF 'penstocklaw15.StateSame'. -/
def stateSameCard : Claim7 := { stood := { row := stateSameRow, standIns := [], harness := (true, "150ffe4eb0b13d68743cdb764ff8e792438679e6b6dbb8d8b9a218bf519dba42"), looks := true }, kinds := [], alts := [], laidByText := true, laidKinds := [.data, .pinned], laidTests := true, laidLooks := .later }
def StateSameCardSaid : Prop := Claim7.holds Tryz.pinned (.plain (OpenSpec.ofChange stateSameSpec)) stateSameCard

/-- THE TIED CARD OF 'penstocklaw23.HandGreat'. -/
def handGreatCard : Claim7 := { stood := { row := handGreatRow, standIns := [], harness := (true, "150ffe4eb0b13d68743cdb764ff8e792438679e6b6dbb8d8b9a218bf519dba42"), looks := true }, kinds := [], alts := [], laidByText := true, laidKinds := [.data, .pinned], laidTests := true, laidLooks := .later }
def HandGreatCardSaid : Prop := Claim7.holds Tryz.pinned (.plain (OpenSpec.ofChange handGreatSpec)) handGreatCard

/-- THE TIED CARD OF 'penstocklaw19.WaterMarks'. -/
def waterMarksCard : Claim7 := { stood := { row := waterMarksRow, standIns := [], harness := (true, "150ffe4eb0b13d68743cdb764ff8e792438679e6b6dbb8d8b9a218bf519dba42"), looks := true }, kinds := [], alts := [], laidByText := true, laidKinds := [.data, .pinned], laidTests := true, laidLooks := .later }
def WaterMarksCardSaid : Prop := Claim7.holds Tryz.pinned (.plain (OpenSpec.ofChange waterMarksSpec)) waterMarksCard

/-- THE TIED CARD OF 'penstocklaw23.HandFence'. -/
def handFenceCard : Claim7 := { stood := { row := handFenceRow, standIns := [], harness := (true, "150ffe4eb0b13d68743cdb764ff8e792438679e6b6dbb8d8b9a218bf519dba42"), looks := true }, kinds := [], alts := [], laidByText := true, laidKinds := [.data, .pinned], laidTests := true, laidLooks := .later }
def HandFenceCardSaid : Prop := Claim7.holds Tryz.pinned (.plain (OpenSpec.ofChange handFenceSpec)) handFenceCard

/-- THE TIED CARD OF 'penstocklaw21.PartDrift'. -/
def partDriftCard : Claim7 := { stood := { row := partDriftRow, standIns := [], harness := (true, "150ffe4eb0b13d68743cdb764ff8e792438679e6b6dbb8d8b9a218bf519dba42"), looks := true }, kinds := [], alts := [], laidByText := true, laidKinds := [.data, .pinned], laidTests := true, laidLooks := .later }
def PartDriftCardSaid : Prop := Claim7.holds Tryz.pinned (.plain (OpenSpec.ofChange partDriftSpec)) partDriftCard

/-- THE TIED CARD OF 'penstocklaw21.PartOnce'. -/
def partOnceCard : Claim7 := { stood := { row := partOnceRow, standIns := [], harness := (true, "150ffe4eb0b13d68743cdb764ff8e792438679e6b6dbb8d8b9a218bf519dba42"), looks := true }, kinds := [], alts := [], laidByText := true, laidKinds := [.data, .pinned], laidTests := true, laidLooks := .later }
def PartOnceCardSaid : Prop := Claim7.holds Tryz.pinned (.plain (OpenSpec.ofChange partOnceSpec)) partOnceCard

/-- THE TIED CARD OF 'penstocklaw21.PartStamps'. -/
def partStampsCard : Claim7 := { stood := { row := partStampsRow, standIns := [], harness := (true, "150ffe4eb0b13d68743cdb764ff8e792438679e6b6dbb8d8b9a218bf519dba42"), looks := true }, kinds := [], alts := [], laidByText := true, laidKinds := [.data, .pinned], laidTests := true, laidLooks := .later }
def PartStampsCardSaid : Prop := Claim7.holds Tryz.pinned (.plain (OpenSpec.ofChange partStampsSpec)) partStampsCard

/-- THE TIED CARD OF 'penstocklaw21.PartPlays'. -/
def partPlaysCard : Claim7 := { stood := { row := partPlaysRow, standIns := [], harness := (true, "150ffe4eb0b13d68743cdb764ff8e792438679e6b6dbb8d8b9a218bf519dba42"), looks := true }, kinds := [], alts := [], laidByText := true, laidKinds := [.data, .pinned], laidTests := true, laidLooks := .later }
def PartPlaysCardSaid : Prop := Claim7.holds Tryz.pinned (.plain (OpenSpec.ofChange partPlaysSpec)) partPlaysCard

/-- THE TIED CARD OF 'penstocklaw23.HandPlans'. -/
def handPlansCard : Claim7 := { stood := { row := handPlansRow, standIns := [], harness := (true, "150ffe4eb0b13d68743cdb764ff8e792438679e6b6dbb8d8b9a218bf519dba42"), looks := true }, kinds := [], alts := [], laidByText := true, laidKinds := [.data, .pinned], laidTests := true, laidLooks := .later }
def HandPlansCardSaid : Prop := Claim7.holds Tryz.pinned (.plain (OpenSpec.ofChange handPlansSpec)) handPlansCard

/-- THE TIED CARD OF 'penstocklaw23.HandBack'. -/
def handBackCard : Claim7 := { stood := { row := handBackRow, standIns := [], harness := (true, "150ffe4eb0b13d68743cdb764ff8e792438679e6b6dbb8d8b9a218bf519dba42"), looks := true }, kinds := [], alts := [], laidByText := true, laidKinds := [.data, .pinned], laidTests := true, laidLooks := .later }
def HandBackCardSaid : Prop := Claim7.holds Tryz.pinned (.plain (OpenSpec.ofChange handBackSpec)) handBackCard

/-- THE SECOND FORM's CARD OF 'penstocklaw15.StateMay'. -/
def stateMayUptoCard : Claim7 := { stood := { row := stateMayUptoRow, standIns := [], harness := (true, "150ffe4eb0b13d68743cdb764ff8e792438679e6b6dbb8d8b9a218bf519dba42"), looks := true }, kinds := [], alts := [], laidByText := true, laidKinds := [.data, .pinned], laidTests := true, laidLooks := .later }
def StateMayUptoCardSaid : Prop := Claim7.holds Tryz.pinned (.plain (OpenSpec.upto stateMaySpec)) stateMayUptoCard

/-- THE SECOND FORM's CARD OF 'penstocklaw15.StateSame'. -/
def stateSameUptoCard : Claim7 := { stood := { row := stateSameUptoRow, standIns := [], harness := (true, "150ffe4eb0b13d68743cdb764ff8e792438679e6b6dbb8d8b9a218bf519dba42"), looks := true }, kinds := [], alts := [], laidByText := true, laidKinds := [.data, .pinned], laidTests := true, laidLooks := .later }
def StateSameUptoCardSaid : Prop := Claim7.holds Tryz.pinned (.plain (OpenSpec.upto stateSameSpec)) stateSameUptoCard

/-- THE SECOND FORM's CARD OF 'penstocklaw23.HandGreat'. -/
def handGreatUptoCard : Claim7 := { stood := { row := handGreatUptoRow, standIns := [], harness := (true, "150ffe4eb0b13d68743cdb764ff8e792438679e6b6dbb8d8b9a218bf519dba42"), looks := true }, kinds := [], alts := [], laidByText := true, laidKinds := [.data, .pinned], laidTests := true, laidLooks := .later }
def HandGreatUptoCardSaid : Prop := Claim7.holds Tryz.pinned (.plain (OpenSpec.upto handGreatSpec)) handGreatUptoCard

/-- THE SECOND FORM's CARD OF 'penstocklaw19.WaterMarks'. -/
def waterMarksUptoCard : Claim7 := { stood := { row := waterMarksUptoRow, standIns := [], harness := (true, "150ffe4eb0b13d68743cdb764ff8e792438679e6b6dbb8d8b9a218bf519dba42"), looks := true }, kinds := [], alts := [], laidByText := true, laidKinds := [.data, .pinned], laidTests := true, laidLooks := .later }
def WaterMarksUptoCardSaid : Prop := Claim7.holds Tryz.pinned (.plain (OpenSpec.upto waterMarksSpec)) waterMarksUptoCard

/-- THE SECOND FORM's CARD OF 'penstocklaw23.HandFence'. -/
def handFenceUptoCard : Claim7 := { stood := { row := handFenceUptoRow, standIns := [], harness := (true, "150ffe4eb0b13d68743cdb764ff8e792438679e6b6dbb8d8b9a218bf519dba42"), looks := true }, kinds := [], alts := [], laidByText := true, laidKinds := [.data, .pinned], laidTests := true, laidLooks := .later }
def HandFenceUptoCardSaid : Prop := Claim7.holds Tryz.pinned (.plain (OpenSpec.upto handFenceSpec)) handFenceUptoCard

/-- THE SECOND FORM's CARD OF 'penstocklaw21.PartDrift'. -/
def partDriftUptoCard : Claim7 := { stood := { row := partDriftUptoRow, standIns := [], harness := (true, "150ffe4eb0b13d68743cdb764ff8e792438679e6b6dbb8d8b9a218bf519dba42"), looks := true }, kinds := [], alts := [], laidByText := true, laidKinds := [.data, .pinned], laidTests := true, laidLooks := .later }
def PartDriftUptoCardSaid : Prop := Claim7.holds Tryz.pinned (.plain (OpenSpec.upto partDriftSpec)) partDriftUptoCard

/-- THE SECOND FORM's CARD OF 'penstocklaw21.PartOnce'. -/
def partOnceUptoCard : Claim7 := { stood := { row := partOnceUptoRow, standIns := [], harness := (true, "150ffe4eb0b13d68743cdb764ff8e792438679e6b6dbb8d8b9a218bf519dba42"), looks := true }, kinds := [], alts := [], laidByText := true, laidKinds := [.data, .pinned], laidTests := true, laidLooks := .later }
def PartOnceUptoCardSaid : Prop := Claim7.holds Tryz.pinned (.plain (OpenSpec.upto partOnceSpec)) partOnceUptoCard

/-- THE SECOND FORM's CARD OF 'penstocklaw21.PartStamps'. -/
def partStampsUptoCard : Claim7 := { stood := { row := partStampsUptoRow, standIns := [], harness := (true, "150ffe4eb0b13d68743cdb764ff8e792438679e6b6dbb8d8b9a218bf519dba42"), looks := true }, kinds := [], alts := [], laidByText := true, laidKinds := [.data, .pinned], laidTests := true, laidLooks := .later }
def PartStampsUptoCardSaid : Prop := Claim7.holds Tryz.pinned (.plain (OpenSpec.upto partStampsSpec)) partStampsUptoCard

/-- THE SECOND FORM's CARD OF 'penstocklaw21.PartPlays'. -/
def partPlaysUptoCard : Claim7 := { stood := { row := partPlaysUptoRow, standIns := [], harness := (true, "150ffe4eb0b13d68743cdb764ff8e792438679e6b6dbb8d8b9a218bf519dba42"), looks := true }, kinds := [], alts := [], laidByText := true, laidKinds := [.data, .pinned], laidTests := true, laidLooks := .later }
def PartPlaysUptoCardSaid : Prop := Claim7.holds Tryz.pinned (.plain (OpenSpec.upto partPlaysSpec)) partPlaysUptoCard

/-- THE SECOND FORM's CARD OF 'penstocklaw23.HandPlans'. -/
def handPlansUptoCard : Claim7 := { stood := { row := handPlansUptoRow, standIns := [], harness := (true, "150ffe4eb0b13d68743cdb764ff8e792438679e6b6dbb8d8b9a218bf519dba42"), looks := true }, kinds := [], alts := [], laidByText := true, laidKinds := [.data, .pinned], laidTests := true, laidLooks := .later }
def HandPlansUptoCardSaid : Prop := Claim7.holds Tryz.pinned (.plain (OpenSpec.upto handPlansSpec)) handPlansUptoCard

/-- THE SECOND FORM's CARD OF 'penstocklaw23.HandBack'. -/
def handBackUptoCard : Claim7 := { stood := { row := handBackUptoRow, standIns := [], harness := (true, "150ffe4eb0b13d68743cdb764ff8e792438679e6b6dbb8d8b9a218bf519dba42"), looks := true }, kinds := [], alts := [], laidByText := true, laidKinds := [.data, .pinned], laidTests := true, laidLooks := .later }
def HandBackUptoCardSaid : Prop := Claim7.holds Tryz.pinned (.plain (OpenSpec.upto handBackSpec)) handBackUptoCard
end Rows
end Go.Proofs.YtcmjgghkmdbphaaGreatDoor

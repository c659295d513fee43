/-
  DERIVED. GIVEN WITH THE SEED: THE CARDS: each row of YtigdbaicoiepiaaGreatDoorRows.lean that lists a variable, with what it lists TIED to the program's text (the seventh form; the later family's looks); each row that meets fmt, with fmt's text TOLD by the authors' own Lean function (tested against real Go, not proved from fmt's source: count such statements apart). THE CARD IS WHAT COUNTS. Prove the row's statement (the work); the ties are given (YtigdbaicoiepiaaGreatDoorTie.lean); close each card by the builder's one call (the guide's Derived/Test/ToyasCard.lean, 'card_holds'). Laid BY PROGRAM, IN A SANDBOX (cutbox-door.mjs). By AI agents, Wed Nov 11 2026. No macro, syntax, notation, axiom, sorry.
-/
import Derived.Test.YtigdbaicoiepiaaGreatDoorRows
import GoSem.ClaimSeven
namespace Go.Proofs.YtigdbaicoiepiaaGreatDoor
namespace Rows

/-- THE TIED CARD OF 'penstocklaw16.KeepOne'. -/
def keepOneCard : Claim7 := { stood := { row := keepOneRow, standIns := [], harness := (true, "57cd2d8c564460d929b19e91cf4d612b87a5c36c3e54c7fa6c6eda086ff8f1f1"), looks := true }, kinds := [], alts := [], laidByText := true, laidKinds := [.data, .data, .data, .sentinel, .sentinel, .pinned, .data], laidTests := true, laidLooks := .later }
def KeepOneCardSaid : Prop := Claim7.holds Tryz.pinned (.plain (OpenSpec.ofChange keepOneSpec)) keepOneCard

/-- THE TIED CARD OF 'penstocklaw26.WorldDrift'. -/
def worldDriftCard : Claim7 := { stood := { row := worldDriftRow, standIns := [], harness := (true, "57cd2d8c564460d929b19e91cf4d612b87a5c36c3e54c7fa6c6eda086ff8f1f1"), looks := true }, kinds := [], alts := [], laidByText := true, laidKinds := [.data, .data, .data, .sentinel, .sentinel, .pinned, .data], laidTests := true, laidLooks := .later }
def WorldDriftCardSaid : Prop := Claim7.holds Tryz.pinned (.plain (OpenSpec.ofChange worldDriftSpec)) worldDriftCard

/-- THE TIED CARD OF 'penstocklaw26.WorldDown'. -/
def worldDownCard : Claim7 := { stood := { row := worldDownRow, standIns := [], harness := (true, "57cd2d8c564460d929b19e91cf4d612b87a5c36c3e54c7fa6c6eda086ff8f1f1"), looks := true }, kinds := [], alts := [], laidByText := true, laidKinds := [.data, .data, .data, .sentinel, .sentinel, .pinned, .data], laidTests := true, laidLooks := .later }
def WorldDownCardSaid : Prop := Claim7.holds Tryz.pinned (.plain (OpenSpec.ofChange worldDownSpec)) worldDownCard

/-- THE TIED CARD OF 'penstocklaw24.NodeOrder'. -/
def nodeOrderCard : Claim7 := { stood := { row := nodeOrderRow, standIns := [], harness := (true, "57cd2d8c564460d929b19e91cf4d612b87a5c36c3e54c7fa6c6eda086ff8f1f1"), looks := true }, kinds := [], alts := [], laidByText := true, laidKinds := [.data, .data, .data, .sentinel, .sentinel, .pinned, .data], laidTests := true, laidLooks := .later }
def NodeOrderCardSaid : Prop := Claim7.holds Tryz.pinned (.plain (OpenSpec.ofChange nodeOrderSpec)) nodeOrderCard

/-- THE SECOND FORM's CARD OF 'penstocklaw16.KeepOne'. -/
def keepOneUptoCard : Claim7 := { stood := { row := keepOneUptoRow, standIns := [], harness := (true, "57cd2d8c564460d929b19e91cf4d612b87a5c36c3e54c7fa6c6eda086ff8f1f1"), looks := true }, kinds := [], alts := [], laidByText := true, laidKinds := [.data, .data, .data, .sentinel, .sentinel, .pinned, .data], laidTests := true, laidLooks := .later }
def KeepOneUptoCardSaid : Prop := Claim7.holds Tryz.pinned (.plain (OpenSpec.upto keepOneSpec)) keepOneUptoCard

/-- THE SECOND FORM's CARD OF 'penstocklaw26.WorldDrift'. -/
def worldDriftUptoCard : Claim7 := { stood := { row := worldDriftUptoRow, standIns := [], harness := (true, "57cd2d8c564460d929b19e91cf4d612b87a5c36c3e54c7fa6c6eda086ff8f1f1"), looks := true }, kinds := [], alts := [], laidByText := true, laidKinds := [.data, .data, .data, .sentinel, .sentinel, .pinned, .data], laidTests := true, laidLooks := .later }
def WorldDriftUptoCardSaid : Prop := Claim7.holds Tryz.pinned (.plain (OpenSpec.upto worldDriftSpec)) worldDriftUptoCard

/-- THE SECOND FORM's CARD OF 'penstocklaw26.WorldDown'. -/
def worldDownUptoCard : Claim7 := { stood := { row := worldDownUptoRow, standIns := [], harness := (true, "57cd2d8c564460d929b19e91cf4d612b87a5c36c3e54c7fa6c6eda086ff8f1f1"), looks := true }, kinds := [], alts := [], laidByText := true, laidKinds := [.data, .data, .data, .sentinel, .sentinel, .pinned, .data], laidTests := true, laidLooks := .later }
def WorldDownUptoCardSaid : Prop := Claim7.holds Tryz.pinned (.plain (OpenSpec.upto worldDownSpec)) worldDownUptoCard

/-- THE SECOND FORM's CARD OF 'penstocklaw24.NodeOrder'. -/
def nodeOrderUptoCard : Claim7 := { stood := { row := nodeOrderUptoRow, standIns := [], harness := (true, "57cd2d8c564460d929b19e91cf4d612b87a5c36c3e54c7fa6c6eda086ff8f1f1"), looks := true }, kinds := [], alts := [], laidByText := true, laidKinds := [.data, .data, .data, .sentinel, .sentinel, .pinned, .data], laidTests := true, laidLooks := .later }
def NodeOrderUptoCardSaid : Prop := Claim7.holds Tryz.pinned (.plain (OpenSpec.upto nodeOrderSpec)) nodeOrderUptoCard
end Rows
end Go.Proofs.YtigdbaicoiepiaaGreatDoor

/-
  DERIVED. GIVEN WITH THE SEED: THE CARDS: each row of YtmeegolgabhnpaaGreatDoorRows.lean that lists a variable, with what it lists TIED to the program's text (the seventh form; the later family's looks); each row that meets fmt, with fmt's text TOLD by the authors' own Lean function (tested against real Go, not proved from fmt's source: count such statements apart). THE CARD IS WHAT COUNTS. Prove the row's statement (the work); the ties are given (YtmeegolgabhnpaaGreatDoorTie.lean); close each card by the builder's one call (the guide's Derived/Test/ToyasCard.lean, 'card_holds'). Laid BY PROGRAM, IN A SANDBOX (cutbox-door.mjs). By AI agents, Wed Nov 11 2026. No macro, syntax, notation, axiom, sorry.
-/
import Derived.Test.YtmeegolgabhnpaaGreatDoorRows
import GoSem.ClaimSeven
namespace Go.Proofs.YtmeegolgabhnpaaGreatDoor
namespace Rows

/-- THE TIED CARD OF 'penstocklaw16.KeepNothing'. -/
def keepNothingCard : Claim7 := { stood := { row := keepNothingRow, standIns := [], harness := (true, "154dc6e3d33aa56f28fab84619db304a3baf500573abfa2ba10c57dd8f82e925"), looks := true }, kinds := [], alts := [], laidByText := true, laidKinds := [.data, .data, .data, .sentinel, .sentinel, .pinned, .data], laidTests := true, laidLooks := .later }
def KeepNothingCardSaid : Prop := Claim7.holds Tryz.pinned (.plain (OpenSpec.ofChange keepNothingSpec)) keepNothingCard

/-- THE TIED CARD OF 'penstocklaw26.WorldNothing'. -/
def worldNothingCard : Claim7 := { stood := { row := worldNothingRow, standIns := [], harness := (true, "154dc6e3d33aa56f28fab84619db304a3baf500573abfa2ba10c57dd8f82e925"), looks := true }, kinds := [], alts := [], laidByText := true, laidKinds := [.pinned, .data, .data, .data, .data, .sentinel, .sentinel], laidTests := true, laidLooks := .later }
def WorldNothingCardSaid : Prop := Claim7.holds Tryz.pinned (.plain (OpenSpec.ofChange worldNothingSpec)) worldNothingCard

/-- THE SECOND FORM's CARD OF 'penstocklaw16.KeepNothing'. -/
def keepNothingUptoCard : Claim7 := { stood := { row := keepNothingUptoRow, standIns := [], harness := (true, "154dc6e3d33aa56f28fab84619db304a3baf500573abfa2ba10c57dd8f82e925"), looks := true }, kinds := [], alts := [], laidByText := true, laidKinds := [.data, .data, .data, .sentinel, .sentinel, .pinned, .data], laidTests := true, laidLooks := .later }
def KeepNothingUptoCardSaid : Prop := Claim7.holds Tryz.pinned (.plain (OpenSpec.upto keepNothingSpec)) keepNothingUptoCard

/-- THE SECOND FORM's CARD OF 'penstocklaw26.WorldNothing'. -/
def worldNothingUptoCard : Claim7 := { stood := { row := worldNothingUptoRow, standIns := [], harness := (true, "154dc6e3d33aa56f28fab84619db304a3baf500573abfa2ba10c57dd8f82e925"), looks := true }, kinds := [], alts := [], laidByText := true, laidKinds := [.pinned, .data, .data, .data, .data, .sentinel, .sentinel], laidTests := true, laidLooks := .later }
def WorldNothingUptoCardSaid : Prop := Claim7.holds Tryz.pinned (.plain (OpenSpec.upto worldNothingSpec)) worldNothingUptoCard
end Rows
end Go.Proofs.YtmeegolgabhnpaaGreatDoor

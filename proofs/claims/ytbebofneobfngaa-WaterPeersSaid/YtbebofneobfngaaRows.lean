/-
  No cell of these rows narrows 'for every input' (looked for: loops, veiled, ifaces, maps, wideKeys, modest, calm, conditions, laid).
  DERIVED. THE GIVEN ROWS OF THIS SEAT. 4 by the template 'for every input the law returns true; each argument reads behind the call as it read before'; 0 by the template 'total and deterministic' (their statements: YtbebofneobfngaaTotals.lean).
  GIVEN WITH THE SEED: the statements are not yours to turn. If you find one false, say at which input.
  Laid BY PROGRAM, IN A SANDBOX (cutbox-rows.mjs): the forced cells as the released guide's own fill.sh prints them over the translation d8c3725f65704af7… (all of the seat's roots in one cut). By AI agents, Wed Nov 11 2026. No macro, syntax, notation, axiom, sorry.
-/
import Derived.Test.YtbebofneobfngaaChecked
import GoSem.Claim
import GoSem.ClaimJoined
import GoSem.ClaimMapViews
import Derived.JoinedTies
import Derived.KernelRfl
namespace Go.Proofs.Ytbebofneobfngaa
/- THE CELL 'sum', in the pinned program and in every row, IS THE sha256 OF THE DUMP (.gsa) THAT YtbebofneobfngaaProg.lean LOADS. Nothing in Lean hashes anything: it is a label: what it is worth is what the hold of that sum in a sandbox is worth. -/
noncomputable def Try.pinned : Pinned := { name := "ytbebofneobfngaa", sum := "d8c3725f65704af7c0fdd3777b7fa2c4c118e3d61c333cd0931ca35fcab5dae5", checked := Try.checked }
namespace Rows
def none {H : Type} : Left H := { results := [], args := [] }

/-- 'penstocklaw19.WaterRises': WHATEVER THE INPUT: true; the input reads as it did. -/
def waterRisesSpec : ChangeSpec := { name := "waterRises", fn := fun _ => fun
  | [d1, d2, d3] => { results := [.lit (.bool true)], args := [d1, d2, d3] }
  | _ => none }
def waterRisesRow : OpenClaim := { program := "ytbebofneobfngaa", sum := "d8c3725f65704af7c0fdd3777b7fa2c4c118e3d61c333cd0931ca35fcab5dae5", func := "penstock/penstocklaw19.WaterRises", spec := "waterRises", apart := false }
def WaterRisesSaid : Prop := waterRisesRow.holds Try.pinned (OpenSpec.ofChange waterRisesSpec)

/-- ITS FALSE NEIGHBOUR: 'it returns false'. Refute it at one input. -/
def waterRisesWrong : ChangeSpec := { name := "waterRises", fn := fun _ => fun
  | [d1, d2, d3] => { results := [.lit (.bool false)], args := [d1, d2, d3] }
  | _ => none }
def WaterRisesWrongFalsely : Prop := waterRisesRow.holds Try.pinned (OpenSpec.ofChange waterRisesWrong)

/-- 'penstocklaw19.WaterWhole': WHATEVER THE INPUT: true; the input reads as it did. -/
def waterWholeSpec : ChangeSpec := { name := "waterWhole", fn := fun _ => fun
  | [d1, d2, d3] => { results := [.lit (.bool true)], args := [d1, d2, d3] }
  | _ => none }
def waterWholeRow : OpenClaim := { program := "ytbebofneobfngaa", sum := "d8c3725f65704af7c0fdd3777b7fa2c4c118e3d61c333cd0931ca35fcab5dae5", func := "penstock/penstocklaw19.WaterWhole", spec := "waterWhole", apart := false }
def WaterWholeSaid : Prop := waterWholeRow.holds Try.pinned (OpenSpec.ofChange waterWholeSpec)

/-- ITS FALSE NEIGHBOUR: 'it returns false'. Refute it at one input. -/
def waterWholeWrong : ChangeSpec := { name := "waterWhole", fn := fun _ => fun
  | [d1, d2, d3] => { results := [.lit (.bool false)], args := [d1, d2, d3] }
  | _ => none }
def WaterWholeWrongFalsely : Prop := waterWholeRow.holds Try.pinned (OpenSpec.ofChange waterWholeWrong)

/-- 'penstocklaw19.WaterNothing': WHATEVER THE INPUT: true; the input reads as it did. -/
def waterNothingSpec : ChangeSpec := { name := "waterNothing", fn := fun _ => fun
  | [d1, d2] => { results := [.lit (.bool true)], args := [d1, d2] }
  | _ => none }
def waterNothingRow : OpenClaim := { program := "ytbebofneobfngaa", sum := "d8c3725f65704af7c0fdd3777b7fa2c4c118e3d61c333cd0931ca35fcab5dae5", func := "penstock/penstocklaw19.WaterNothing", spec := "waterNothing", apart := false }
def WaterNothingSaid : Prop := waterNothingRow.holds Try.pinned (OpenSpec.ofChange waterNothingSpec)

/-- ITS FALSE NEIGHBOUR: 'it returns false'. Refute it at one input. -/
def waterNothingWrong : ChangeSpec := { name := "waterNothing", fn := fun _ => fun
  | [d1, d2] => { results := [.lit (.bool false)], args := [d1, d2] }
  | _ => none }
def WaterNothingWrongFalsely : Prop := waterNothingRow.holds Try.pinned (OpenSpec.ofChange waterNothingWrong)

/-- 'penstocklaw19.WaterPeers': WHATEVER THE INPUT: true; the input reads as it did. -/
def waterPeersSpec : ChangeSpec := { name := "waterPeers", fn := fun _ => fun
  | [d1, d2] => { results := [.lit (.bool true)], args := [d1, d2] }
  | _ => none }
def waterPeersRow : OpenClaim := { program := "ytbebofneobfngaa", sum := "d8c3725f65704af7c0fdd3777b7fa2c4c118e3d61c333cd0931ca35fcab5dae5", func := "penstock/penstocklaw19.WaterPeers", spec := "waterPeers", apart := false }
def WaterPeersSaid : Prop := waterPeersRow.holds Try.pinned (OpenSpec.ofChange waterPeersSpec)

/-- ITS FALSE NEIGHBOUR: 'it returns false'. Refute it at one input. -/
def waterPeersWrong : ChangeSpec := { name := "waterPeers", fn := fun _ => fun
  | [d1, d2] => { results := [.lit (.bool false)], args := [d1, d2] }
  | _ => none }
def WaterPeersWrongFalsely : Prop := waterPeersRow.holds Try.pinned (OpenSpec.ofChange waterPeersWrong)

/- THE SECOND FORM. 'bulk': how many values and letters a reading holds, each counted each time it is reached (what is shared counts as often as it is met; a slice's spare places count too). A statement '..UptoSaid' is the law's where the arguments, and the package variables that the reading takes, are together of bulk at most 1048576: NARROWER than '..Said'. Prove '..Said' where nothing that the law and all that it calls make is longer than what came in: it says more and counts as full. Else prove '..UptoSaid'. A law counts once. -/
mutual
def uptoBulk {H : Type} : DataW H → Nat
  | .lit (.string bytes) => bytes.length + 1
  | .lit _ => 1
  | .nil => 1
  | .ptr d => uptoBulk d + 1
  | .slice elems spare => uptoBulkAll elems + uptoBulkAll spare + 1
  | .agg parts => uptoBulkAll parts + 1
  | .iface _ d => uptoBulk d + 1
  | .map entries => uptoBulkEntries entries + 1
  | .held _ => 1
def uptoBulkAll {H : Type} : List (DataW H) → Nat
  | [] => 0
  | d :: r => uptoBulk d + uptoBulkAll r
def uptoBulkEntries {H : Type} : List (Lit × DataW H) → Nat
  | [] => 0
  | x :: r => uptoBulkEntry x + uptoBulkEntries r
def uptoBulkEntry {H : Type} : Lit × DataW H → Nat
  | (.string bytes, d) => bytes.length + uptoBulk d + 1
  | (_, d) => uptoBulk d + 1
 end
def uptoSmall : (H : Type) → List (DataW H) → Bool := fun _ ds => decide (uptoBulkAll ds ≤ 1048576)
def OpenSpec.upto (s : _root_.Go.ChangeSpec) : _root_.Go.OpenSpec := { _root_.Go.OpenSpec.ofChange s with cond := some uptoSmall }

/-- 'penstocklaw19.WaterRises', WHERE WHAT IT READS IS OF BULK AT MOST 1048576: true; the input reads as it did. -/
def waterRisesUptoRow : OpenClaim := { program := "ytbebofneobfngaa", sum := "d8c3725f65704af7c0fdd3777b7fa2c4c118e3d61c333cd0931ca35fcab5dae5", func := "penstock/penstocklaw19.WaterRises", spec := "waterRises", apart := false, narrowed := true }
def WaterRisesUptoSaid : Prop := waterRisesUptoRow.holds Try.pinned (OpenSpec.upto waterRisesSpec)

/-- 'penstocklaw19.WaterWhole', WHERE WHAT IT READS IS OF BULK AT MOST 1048576: true; the input reads as it did. -/
def waterWholeUptoRow : OpenClaim := { program := "ytbebofneobfngaa", sum := "d8c3725f65704af7c0fdd3777b7fa2c4c118e3d61c333cd0931ca35fcab5dae5", func := "penstock/penstocklaw19.WaterWhole", spec := "waterWhole", apart := false, narrowed := true }
def WaterWholeUptoSaid : Prop := waterWholeUptoRow.holds Try.pinned (OpenSpec.upto waterWholeSpec)

/-- 'penstocklaw19.WaterNothing', WHERE WHAT IT READS IS OF BULK AT MOST 1048576: true; the input reads as it did. -/
def waterNothingUptoRow : OpenClaim := { program := "ytbebofneobfngaa", sum := "d8c3725f65704af7c0fdd3777b7fa2c4c118e3d61c333cd0931ca35fcab5dae5", func := "penstock/penstocklaw19.WaterNothing", spec := "waterNothing", apart := false, narrowed := true }
def WaterNothingUptoSaid : Prop := waterNothingUptoRow.holds Try.pinned (OpenSpec.upto waterNothingSpec)

/-- 'penstocklaw19.WaterPeers', WHERE WHAT IT READS IS OF BULK AT MOST 1048576: true; the input reads as it did. -/
def waterPeersUptoRow : OpenClaim := { program := "ytbebofneobfngaa", sum := "d8c3725f65704af7c0fdd3777b7fa2c4c118e3d61c333cd0931ca35fcab5dae5", func := "penstock/penstocklaw19.WaterPeers", spec := "waterPeers", apart := false, narrowed := true }
def WaterPeersUptoSaid : Prop := waterPeersUptoRow.holds Try.pinned (OpenSpec.upto waterPeersSpec)

end Rows
end Go.Proofs.Ytbebofneobfngaa

/-
  NARROWER THAN 'FOR EVERY INPUT', by the rows' own cells (each row's printed sentence says how): StateMay: laid · StateSame: laid · HandGreat: laid · WaterMarks: laid · HandFence: laid · PartDrift: laid · PartOnce: laid · PartStamps: laid · PartPlays: laid · HandPlans: laid · HandBack: laid.
  DERIVED. THE GIVEN ROWS OF THIS SEAT. 11 by the template 'for every input the law returns true; each argument reads behind the call as it read before'; 0 by the template 'total and deterministic' (their statements: YtcmjgghkmdbphaaGreatDoorTotals.lean).
  GIVEN WITH THE SEED: the statements are not yours to turn. If you find one false, say at which input.
  Laid BY PROGRAM, IN A SANDBOX (cutbox-rows.mjs): the forced cells as the released guide's own fill.sh prints them over the translation ee9b83f689055d0c… (all of the seat's roots in one cut). By AI agents, Wed Nov 11 2026. No macro, syntax, notation, axiom, sorry.
-/
import Derived.Test.YtcmjgghkmdbphaaGreatDoorChecked
import GoSem.PinnedTables
import GoSem.Claim
import GoSem.ClaimJoined
import GoSem.ClaimMapViews
import Derived.JoinedTies
import Derived.KernelRfl
namespace Go.Proofs.YtcmjgghkmdbphaaGreatDoor
/- THE CELL 'sum', in the pinned program and in every row, IS THE sha256 OF THE DUMP (.gsa) THAT YtcmjgghkmdbphaaGreatDoorProg.lean LOADS. Nothing in Lean hashes anything: it is a label: what it is worth is what the hold of that sum in a sandbox is worth. -/
noncomputable def Tryz.pinned : Pinned := { name := "ytcmjgghkmdbphaagreatdoor", sum := "ee9b83f689055d0c5f9e2ba0cb65a6b91afe74f49c0f99657d499be1d9ffb641", checked := Tryz.checked }
namespace Rows
def none {H : Type} : Left H := { results := [], args := [] }

/- WHAT THE LISTED PACKAGE-LEVEL VARIABLES READ AS WHEN THE CALL BEGINS. Each datum BY PROGRAM (the guide's laid-datum.mjs) off the statement by which the dump's own 'gosem.cut.vars' lays the variable. In a bare row this is a premise. The card (YtcmjgghkmdbphaaGreatDoorCards.lean) ties it to the program's text. -/
def laid_unicode_utf8_acceptRanges {H : Type} : DataW H := .agg [.agg [.lit (.int .u8 128), .lit (.int .u8 191)], .agg [.lit (.int .u8 160), .lit (.int .u8 191)], .agg [.lit (.int .u8 128), .lit (.int .u8 159)], .agg [.lit (.int .u8 144), .lit (.int .u8 191)], .agg [.lit (.int .u8 128), .lit (.int .u8 143)], .agg [.lit (.int .u8 0), .lit (.int .u8 0)], .agg [.lit (.int .u8 0), .lit (.int .u8 0)], .agg [.lit (.int .u8 0), .lit (.int .u8 0)], .agg [.lit (.int .u8 0), .lit (.int .u8 0)], .agg [.lit (.int .u8 0), .lit (.int .u8 0)], .agg [.lit (.int .u8 0), .lit (.int .u8 0)], .agg [.lit (.int .u8 0), .lit (.int .u8 0)], .agg [.lit (.int .u8 0), .lit (.int .u8 0)], .agg [.lit (.int .u8 0), .lit (.int .u8 0)], .agg [.lit (.int .u8 0), .lit (.int .u8 0)], .agg [.lit (.int .u8 0), .lit (.int .u8 0)]]
/-- One of Go's own tables, pinned by name: the form's constant. -/
def laid_unicode_utf8_first : DataW Unit := Go.Pinned.utf8First

/-- 'penstocklaw15.StateMay': WHATEVER THE INPUT: true; the input reads as it did. -/
def stateMaySpec : ChangeSpec := { name := "stateMay", fn := fun _ => fun
  | [d1, d2, d3, d4, d5, d6, d7] => { results := [.lit (.bool true)], args := [d1, d2, d3, d4, d5, d6, d7] }
  | _ => none }
def stateMayRow : OpenClaim := { program := "ytcmjgghkmdbphaagreatdoor", sum := "ee9b83f689055d0c5f9e2ba0cb65a6b91afe74f49c0f99657d499be1d9ffb641", func := "penstock/penstocklaw15.StateMay", spec := "stateMay", inPlace := ["maps.clone"], unfollowed := true, recurses := true, named := ["unicode/utf8.first", "unicode/utf8.acceptRanges"], plainKeys := false, apart := false, laid := [("unicode/utf8.acceptRanges", laid_unicode_utf8_acceptRanges), ("unicode/utf8.first", laid_unicode_utf8_first)] }
def StateMaySaid : Prop := stateMayRow.holds Tryz.pinned (OpenSpec.ofChange stateMaySpec)

/-- ITS FALSE NEIGHBOUR: 'it returns false'. Refute it at one input. -/
def stateMayWrong : ChangeSpec := { name := "stateMay", fn := fun _ => fun
  | [d1, d2, d3, d4, d5, d6, d7] => { results := [.lit (.bool false)], args := [d1, d2, d3, d4, d5, d6, d7] }
  | _ => none }
def StateMayWrongFalsely : Prop := stateMayRow.holds Tryz.pinned (OpenSpec.ofChange stateMayWrong)

/-- 'penstocklaw15.StateSame': WHATEVER THE INPUT: true; the input reads as it did. -/
def stateSameSpec : ChangeSpec := { name := "stateSame", fn := fun _ => fun
  | [d1, d2] => { results := [.lit (.bool true)], args := [d1, d2] }
  | _ => none }
def stateSameRow : OpenClaim := { program := "ytcmjgghkmdbphaagreatdoor", sum := "ee9b83f689055d0c5f9e2ba0cb65a6b91afe74f49c0f99657d499be1d9ffb641", func := "penstock/penstocklaw15.StateSame", spec := "stateSame", inPlace := ["maps.clone"], unfollowed := true, recurses := true, named := ["unicode/utf8.first", "unicode/utf8.acceptRanges"], plainKeys := false, apart := false, laid := [("unicode/utf8.acceptRanges", laid_unicode_utf8_acceptRanges), ("unicode/utf8.first", laid_unicode_utf8_first)] }
def StateSameSaid : Prop := stateSameRow.holds Tryz.pinned (OpenSpec.ofChange stateSameSpec)

/-- ITS FALSE NEIGHBOUR: 'it returns false'. Refute it at one input. -/
def stateSameWrong : ChangeSpec := { name := "stateSame", fn := fun _ => fun
  | [d1, d2] => { results := [.lit (.bool false)], args := [d1, d2] }
  | _ => none }
def StateSameWrongFalsely : Prop := stateSameRow.holds Tryz.pinned (OpenSpec.ofChange stateSameWrong)

/-- 'penstocklaw23.HandGreat': WHATEVER THE INPUT: true; the input reads as it did. -/
def handGreatSpec : ChangeSpec := { name := "handGreat", fn := fun _ => fun
  | [d1, d2] => { results := [.lit (.bool true)], args := [d1, d2] }
  | _ => none }
def handGreatRow : OpenClaim := { program := "ytcmjgghkmdbphaagreatdoor", sum := "ee9b83f689055d0c5f9e2ba0cb65a6b91afe74f49c0f99657d499be1d9ffb641", func := "penstock/penstocklaw23.HandGreat", spec := "handGreat", inPlace := ["maps.clone"], unfollowed := true, recurses := true, named := ["unicode/utf8.first", "unicode/utf8.acceptRanges"], plainKeys := false, apart := false, laid := [("unicode/utf8.acceptRanges", laid_unicode_utf8_acceptRanges), ("unicode/utf8.first", laid_unicode_utf8_first)] }
def HandGreatSaid : Prop := handGreatRow.holds Tryz.pinned (OpenSpec.ofChange handGreatSpec)

/-- ITS FALSE NEIGHBOUR: 'it returns false'. Refute it at one input. -/
def handGreatWrong : ChangeSpec := { name := "handGreat", fn := fun _ => fun
  | [d1, d2] => { results := [.lit (.bool false)], args := [d1, d2] }
  | _ => none }
def HandGreatWrongFalsely : Prop := handGreatRow.holds Tryz.pinned (OpenSpec.ofChange handGreatWrong)

/-- 'penstocklaw19.WaterMarks': WHATEVER THE INPUT: true; the input reads as it did. -/
def waterMarksSpec : ChangeSpec := { name := "waterMarks", fn := fun _ => fun
  | [d1, d2] => { results := [.lit (.bool true)], args := [d1, d2] }
  | _ => none }
def waterMarksRow : OpenClaim := { program := "ytcmjgghkmdbphaagreatdoor", sum := "ee9b83f689055d0c5f9e2ba0cb65a6b91afe74f49c0f99657d499be1d9ffb641", func := "penstock/penstocklaw19.WaterMarks", spec := "waterMarks", inPlace := ["maps.clone"], unfollowed := true, recurses := true, named := ["unicode/utf8.first", "unicode/utf8.acceptRanges"], plainKeys := false, apart := false, laid := [("unicode/utf8.acceptRanges", laid_unicode_utf8_acceptRanges), ("unicode/utf8.first", laid_unicode_utf8_first)] }
def WaterMarksSaid : Prop := waterMarksRow.holds Tryz.pinned (OpenSpec.ofChange waterMarksSpec)

/-- ITS FALSE NEIGHBOUR: 'it returns false'. Refute it at one input. -/
def waterMarksWrong : ChangeSpec := { name := "waterMarks", fn := fun _ => fun
  | [d1, d2] => { results := [.lit (.bool false)], args := [d1, d2] }
  | _ => none }
def WaterMarksWrongFalsely : Prop := waterMarksRow.holds Tryz.pinned (OpenSpec.ofChange waterMarksWrong)

/-- 'penstocklaw23.HandFence': WHATEVER THE INPUT: true; the input reads as it did. -/
def handFenceSpec : ChangeSpec := { name := "handFence", fn := fun _ => fun
  | [d1, d2] => { results := [.lit (.bool true)], args := [d1, d2] }
  | _ => none }
def handFenceRow : OpenClaim := { program := "ytcmjgghkmdbphaagreatdoor", sum := "ee9b83f689055d0c5f9e2ba0cb65a6b91afe74f49c0f99657d499be1d9ffb641", func := "penstock/penstocklaw23.HandFence", spec := "handFence", inPlace := ["maps.clone"], unfollowed := true, recurses := true, named := ["unicode/utf8.first", "unicode/utf8.acceptRanges"], plainKeys := false, apart := false, laid := [("unicode/utf8.acceptRanges", laid_unicode_utf8_acceptRanges), ("unicode/utf8.first", laid_unicode_utf8_first)] }
def HandFenceSaid : Prop := handFenceRow.holds Tryz.pinned (OpenSpec.ofChange handFenceSpec)

/-- ITS FALSE NEIGHBOUR: 'it returns false'. Refute it at one input. -/
def handFenceWrong : ChangeSpec := { name := "handFence", fn := fun _ => fun
  | [d1, d2] => { results := [.lit (.bool false)], args := [d1, d2] }
  | _ => none }
def HandFenceWrongFalsely : Prop := handFenceRow.holds Tryz.pinned (OpenSpec.ofChange handFenceWrong)

/-- 'penstocklaw21.PartDrift': WHATEVER THE INPUT: true; the input reads as it did. -/
def partDriftSpec : ChangeSpec := { name := "partDrift", fn := fun _ => fun
  | [d1, d2] => { results := [.lit (.bool true)], args := [d1, d2] }
  | _ => none }
def partDriftRow : OpenClaim := { program := "ytcmjgghkmdbphaagreatdoor", sum := "ee9b83f689055d0c5f9e2ba0cb65a6b91afe74f49c0f99657d499be1d9ffb641", func := "penstock/penstocklaw21.PartDrift", spec := "partDrift", inPlace := ["maps.clone"], unfollowed := true, recurses := true, named := ["unicode/utf8.first", "unicode/utf8.acceptRanges"], plainKeys := false, apart := false, laid := [("unicode/utf8.acceptRanges", laid_unicode_utf8_acceptRanges), ("unicode/utf8.first", laid_unicode_utf8_first)] }
def PartDriftSaid : Prop := partDriftRow.holds Tryz.pinned (OpenSpec.ofChange partDriftSpec)

/-- ITS FALSE NEIGHBOUR: 'it returns false'. Refute it at one input. -/
def partDriftWrong : ChangeSpec := { name := "partDrift", fn := fun _ => fun
  | [d1, d2] => { results := [.lit (.bool false)], args := [d1, d2] }
  | _ => none }
def PartDriftWrongFalsely : Prop := partDriftRow.holds Tryz.pinned (OpenSpec.ofChange partDriftWrong)

/-- 'penstocklaw21.PartOnce': WHATEVER THE INPUT: true; the input reads as it did. -/
def partOnceSpec : ChangeSpec := { name := "partOnce", fn := fun _ => fun
  | [d1, d2, d3] => { results := [.lit (.bool true)], args := [d1, d2, d3] }
  | _ => none }
def partOnceRow : OpenClaim := { program := "ytcmjgghkmdbphaagreatdoor", sum := "ee9b83f689055d0c5f9e2ba0cb65a6b91afe74f49c0f99657d499be1d9ffb641", func := "penstock/penstocklaw21.PartOnce", spec := "partOnce", inPlace := ["maps.clone"], unfollowed := true, recurses := true, named := ["unicode/utf8.first", "unicode/utf8.acceptRanges"], plainKeys := false, apart := false, laid := [("unicode/utf8.acceptRanges", laid_unicode_utf8_acceptRanges), ("unicode/utf8.first", laid_unicode_utf8_first)] }
def PartOnceSaid : Prop := partOnceRow.holds Tryz.pinned (OpenSpec.ofChange partOnceSpec)

/-- ITS FALSE NEIGHBOUR: 'it returns false'. Refute it at one input. -/
def partOnceWrong : ChangeSpec := { name := "partOnce", fn := fun _ => fun
  | [d1, d2, d3] => { results := [.lit (.bool false)], args := [d1, d2, d3] }
  | _ => none }
def PartOnceWrongFalsely : Prop := partOnceRow.holds Tryz.pinned (OpenSpec.ofChange partOnceWrong)

/-- 'penstocklaw21.PartStamps': WHATEVER THE INPUT: true; the input reads as it did. -/
def partStampsSpec : ChangeSpec := { name := "partStamps", fn := fun _ => fun
  | [d] => { results := [.lit (.bool true)], args := [d] }
  | _ => none }
def partStampsRow : OpenClaim := { program := "ytcmjgghkmdbphaagreatdoor", sum := "ee9b83f689055d0c5f9e2ba0cb65a6b91afe74f49c0f99657d499be1d9ffb641", func := "penstock/penstocklaw21.PartStamps", spec := "partStamps", inPlace := ["maps.clone"], unfollowed := true, recurses := true, named := ["unicode/utf8.first", "unicode/utf8.acceptRanges"], plainKeys := false, apart := false, laid := [("unicode/utf8.acceptRanges", laid_unicode_utf8_acceptRanges), ("unicode/utf8.first", laid_unicode_utf8_first)] }
def PartStampsSaid : Prop := partStampsRow.holds Tryz.pinned (OpenSpec.ofChange partStampsSpec)

/-- ITS FALSE NEIGHBOUR: 'it returns false'. Refute it at one input. -/
def partStampsWrong : ChangeSpec := { name := "partStamps", fn := fun _ => fun
  | [d] => { results := [.lit (.bool false)], args := [d] }
  | _ => none }
def PartStampsWrongFalsely : Prop := partStampsRow.holds Tryz.pinned (OpenSpec.ofChange partStampsWrong)

/-- 'penstocklaw21.PartPlays': WHATEVER THE INPUT: true; the input reads as it did. -/
def partPlaysSpec : ChangeSpec := { name := "partPlays", fn := fun _ => fun
  | [d] => { results := [.lit (.bool true)], args := [d] }
  | _ => none }
def partPlaysRow : OpenClaim := { program := "ytcmjgghkmdbphaagreatdoor", sum := "ee9b83f689055d0c5f9e2ba0cb65a6b91afe74f49c0f99657d499be1d9ffb641", func := "penstock/penstocklaw21.PartPlays", spec := "partPlays", inPlace := ["maps.clone"], unfollowed := true, recurses := true, named := ["unicode/utf8.first", "unicode/utf8.acceptRanges"], plainKeys := false, apart := false, laid := [("unicode/utf8.acceptRanges", laid_unicode_utf8_acceptRanges), ("unicode/utf8.first", laid_unicode_utf8_first)] }
def PartPlaysSaid : Prop := partPlaysRow.holds Tryz.pinned (OpenSpec.ofChange partPlaysSpec)

/-- ITS FALSE NEIGHBOUR: 'it returns false'. Refute it at one input. -/
def partPlaysWrong : ChangeSpec := { name := "partPlays", fn := fun _ => fun
  | [d] => { results := [.lit (.bool false)], args := [d] }
  | _ => none }
def PartPlaysWrongFalsely : Prop := partPlaysRow.holds Tryz.pinned (OpenSpec.ofChange partPlaysWrong)

/-- 'penstocklaw23.HandPlans': WHATEVER THE INPUT: true; the input reads as it did. -/
def handPlansSpec : ChangeSpec := { name := "handPlans", fn := fun _ => fun
  | [d1, d2, d3, d4, d5, d6, d7] => { results := [.lit (.bool true)], args := [d1, d2, d3, d4, d5, d6, d7] }
  | _ => none }
def handPlansRow : OpenClaim := { program := "ytcmjgghkmdbphaagreatdoor", sum := "ee9b83f689055d0c5f9e2ba0cb65a6b91afe74f49c0f99657d499be1d9ffb641", func := "penstock/penstocklaw23.HandPlans", spec := "handPlans", inPlace := ["maps.clone"], unfollowed := true, recurses := true, named := ["unicode/utf8.first", "unicode/utf8.acceptRanges"], plainKeys := false, apart := false, laid := [("unicode/utf8.acceptRanges", laid_unicode_utf8_acceptRanges), ("unicode/utf8.first", laid_unicode_utf8_first)] }
def HandPlansSaid : Prop := handPlansRow.holds Tryz.pinned (OpenSpec.ofChange handPlansSpec)

/-- ITS FALSE NEIGHBOUR: 'it returns false'. Refute it at one input. -/
def handPlansWrong : ChangeSpec := { name := "handPlans", fn := fun _ => fun
  | [d1, d2, d3, d4, d5, d6, d7] => { results := [.lit (.bool false)], args := [d1, d2, d3, d4, d5, d6, d7] }
  | _ => none }
def HandPlansWrongFalsely : Prop := handPlansRow.holds Tryz.pinned (OpenSpec.ofChange handPlansWrong)

/-- 'penstocklaw23.HandBack': WHATEVER THE INPUT: true; the input reads as it did. -/
def handBackSpec : ChangeSpec := { name := "handBack", fn := fun _ => fun
  | [d1, d2] => { results := [.lit (.bool true)], args := [d1, d2] }
  | _ => none }
def handBackRow : OpenClaim := { program := "ytcmjgghkmdbphaagreatdoor", sum := "ee9b83f689055d0c5f9e2ba0cb65a6b91afe74f49c0f99657d499be1d9ffb641", func := "penstock/penstocklaw23.HandBack", spec := "handBack", inPlace := ["maps.clone"], unfollowed := true, recurses := true, named := ["unicode/utf8.first", "unicode/utf8.acceptRanges"], plainKeys := false, apart := false, laid := [("unicode/utf8.acceptRanges", laid_unicode_utf8_acceptRanges), ("unicode/utf8.first", laid_unicode_utf8_first)] }
def HandBackSaid : Prop := handBackRow.holds Tryz.pinned (OpenSpec.ofChange handBackSpec)

/-- ITS FALSE NEIGHBOUR: 'it returns false'. Refute it at one input. -/
def handBackWrong : ChangeSpec := { name := "handBack", fn := fun _ => fun
  | [d1, d2] => { results := [.lit (.bool false)], args := [d1, d2] }
  | _ => none }
def HandBackWrongFalsely : Prop := handBackRow.holds Tryz.pinned (OpenSpec.ofChange handBackWrong)

/- THE SECOND FORM. 'bulk': how many values and letters a reading holds, each counted each time it is reached (what is shared counts as often as it is met; a slice's spare places count too). A statement '..UptoSaid' is the law's where the arguments, and the package variables that the reading takes, are together of bulk at most 1048576: NARROWER than '..Said'. Prove '..Said' where nothing that the law and all that it calls make is longer than what came in: it says more and counts as full. Else prove '..UptoSaid'. A law counts once. -/
mutual
def uptoBulk {H : Type} : DataW H → Nat
  | .lit (.string bytes) => bytes.length + 1
  | .lit _ => 1
  | .nil => 1
  | .ptr d => uptoBulk d + 1
  | .slice elems spare => uptoBulkAll elems + uptoBulkAll spare + 1
  | .agg parts => uptoBulkAll parts + 1
  | .iface _ d => uptoBulk d + 1
  | .map entries => uptoBulkEntries entries + 1
  | .held _ => 1
def uptoBulkAll {H : Type} : List (DataW H) → Nat
  | [] => 0
  | d :: r => uptoBulk d + uptoBulkAll r
def uptoBulkEntries {H : Type} : List (Lit × DataW H) → Nat
  | [] => 0
  | x :: r => uptoBulkEntry x + uptoBulkEntries r
def uptoBulkEntry {H : Type} : Lit × DataW H → Nat
  | (.string bytes, d) => bytes.length + uptoBulk d + 1
  | (_, d) => uptoBulk d + 1
 end
def uptoSmall : (H : Type) → List (DataW H) → Bool := fun _ ds => decide (uptoBulkAll ds ≤ 1048576)
def OpenSpec.upto (s : _root_.Go.ChangeSpec) : _root_.Go.OpenSpec := { _root_.Go.OpenSpec.ofChange s with cond := some uptoSmall }

/-- 'penstocklaw15.StateMay', WHERE WHAT IT READS IS OF BULK AT MOST 1048576: true; the input reads as it did. -/
def stateMayUptoRow : OpenClaim := { program := "ytcmjgghkmdbphaagreatdoor", sum := "ee9b83f689055d0c5f9e2ba0cb65a6b91afe74f49c0f99657d499be1d9ffb641", func := "penstock/penstocklaw15.StateMay", spec := "stateMay", inPlace := ["maps.clone"], unfollowed := true, recurses := true, named := ["unicode/utf8.first", "unicode/utf8.acceptRanges"], plainKeys := false, apart := false, laid := [("unicode/utf8.acceptRanges", laid_unicode_utf8_acceptRanges), ("unicode/utf8.first", laid_unicode_utf8_first)], narrowed := true }
def StateMayUptoSaid : Prop := stateMayUptoRow.holds Tryz.pinned (OpenSpec.upto stateMaySpec)

/-- 'penstocklaw15.StateSame', WHERE WHAT IT READS IS OF BULK AT MOST 1048576: true; the input reads as it did. -/
def stateSameUptoRow : OpenClaim := { program := "ytcmjgghkmdbphaagreatdoor", sum := "ee9b83f689055d0c5f9e2ba0cb65a6b91afe74f49c0f99657d499be1d9ffb641", func := "penstock/penstocklaw15.StateSame", spec := "stateSame", inPlace := ["maps.clone"], unfollowed := true, recurses := true, named := ["unicode/utf8.first", "unicode/utf8.acceptRanges"], plainKeys := false, apart := false, laid := [("unicode/utf8.acceptRanges", laid_unicode_utf8_acceptRanges), ("unicode/utf8.first", laid_unicode_utf8_first)], narrowed := true }
def StateSameUptoSaid : Prop := stateSameUptoRow.holds Tryz.pinned (OpenSpec.upto stateSameSpec)

/-- 'penstocklaw23.HandGreat', WHERE WHAT IT READS IS OF BULK AT MOST 1048576: true; the input reads as it did. -/
def handGreatUptoRow : OpenClaim := { program := "ytcmjgghkmdbphaagreatdoor", sum := "ee9b83f689055d0c5f9e2ba0cb65a6b91afe74f49c0f99657d499be1d9ffb641", func := "penstock/penstocklaw23.HandGreat", spec := "handGreat", inPlace := ["maps.clone"], unfollowed := true, recurses := true, named := ["unicode/utf8.first", "unicode/utf8.acceptRanges"], plainKeys := false, apart := false, laid := [("unicode/utf8.acceptRanges", laid_unicode_utf8_acceptRanges), ("unicode/utf8.first", laid_unicode_utf8_first)], narrowed := true }
def HandGreatUptoSaid : Prop := handGreatUptoRow.holds Tryz.pinned (OpenSpec.upto handGreatSpec)

/-- 'penstocklaw19.WaterMarks', WHERE WHAT IT READS IS OF BULK AT MOST 1048576: true; the input reads as it did. -/
def waterMarksUptoRow : OpenClaim := { program := "ytcmjgghkmdbphaagreatdoor", sum := "ee9b83f689055d0c5f9e2ba0cb65a6b91afe74f49c0f99657d499be1d9ffb641", func := "penstock/penstocklaw19.WaterMarks", spec := "waterMarks", inPlace := ["maps.clone"], unfollowed := true, recurses := true, named := ["unicode/utf8.first", "unicode/utf8.acceptRanges"], plainKeys := false, apart := false, laid := [("unicode/utf8.acceptRanges", laid_unicode_utf8_acceptRanges), ("unicode/utf8.first", laid_unicode_utf8_first)], narrowed := true }
def WaterMarksUptoSaid : Prop := waterMarksUptoRow.holds Tryz.pinned (OpenSpec.upto waterMarksSpec)

/-- 'penstocklaw23.HandFence', WHERE WHAT IT READS IS OF BULK AT MOST 1048576: true; the input reads as it did. -/
def handFenceUptoRow : OpenClaim := { program := "ytcmjgghkmdbphaagreatdoor", sum := "ee9b83f689055d0c5f9e2ba0cb65a6b91afe74f49c0f99657d499be1d9ffb641", func := "penstock/penstocklaw23.HandFence", spec := "handFence", inPlace := ["maps.clone"], unfollowed := true, recurses := true, named := ["unicode/utf8.first", "unicode/utf8.acceptRanges"], plainKeys := false, apart := false, laid := [("unicode/utf8.acceptRanges", laid_unicode_utf8_acceptRanges), ("unicode/utf8.first", laid_unicode_utf8_first)], narrowed := true }
def HandFenceUptoSaid : Prop := handFenceUptoRow.holds Tryz.pinned (OpenSpec.upto handFenceSpec)

/-- 'penstocklaw21.PartDrift', WHERE WHAT IT READS IS OF BULK AT MOST 1048576: true; the input reads as it did. -/
def partDriftUptoRow : OpenClaim := { program := "ytcmjgghkmdbphaagreatdoor", sum := "ee9b83f689055d0c5f9e2ba0cb65a6b91afe74f49c0f99657d499be1d9ffb641", func := "penstock/penstocklaw21.PartDrift", spec := "partDrift", inPlace := ["maps.clone"], unfollowed := true, recurses := true, named := ["unicode/utf8.first", "unicode/utf8.acceptRanges"], plainKeys := false, apart := false, laid := [("unicode/utf8.acceptRanges", laid_unicode_utf8_acceptRanges), ("unicode/utf8.first", laid_unicode_utf8_first)], narrowed := true }
def PartDriftUptoSaid : Prop := partDriftUptoRow.holds Tryz.pinned (OpenSpec.upto partDriftSpec)

/-- 'penstocklaw21.PartOnce', WHERE WHAT IT READS IS OF BULK AT MOST 1048576: true; the input reads as it did. -/
def partOnceUptoRow : OpenClaim := { program := "ytcmjgghkmdbphaagreatdoor", sum := "ee9b83f689055d0c5f9e2ba0cb65a6b91afe74f49c0f99657d499be1d9ffb641", func := "penstock/penstocklaw21.PartOnce", spec := "partOnce", inPlace := ["maps.clone"], unfollowed := true, recurses := true, named := ["unicode/utf8.first", "unicode/utf8.acceptRanges"], plainKeys := false, apart := false, laid := [("unicode/utf8.acceptRanges", laid_unicode_utf8_acceptRanges), ("unicode/utf8.first", laid_unicode_utf8_first)], narrowed := true }
def PartOnceUptoSaid : Prop := partOnceUptoRow.holds Tryz.pinned (OpenSpec.upto partOnceSpec)

/-- 'penstocklaw21.PartStamps', WHERE WHAT IT READS IS OF BULK AT MOST 1048576: true; the input reads as it did. -/
def partStampsUptoRow : OpenClaim := { program := "ytcmjgghkmdbphaagreatdoor", sum := "ee9b83f689055d0c5f9e2ba0cb65a6b91afe74f49c0f99657d499be1d9ffb641", func := "penstock/penstocklaw21.PartStamps", spec := "partStamps", inPlace := ["maps.clone"], unfollowed := true, recurses := true, named := ["unicode/utf8.first", "unicode/utf8.acceptRanges"], plainKeys := false, apart := false, laid := [("unicode/utf8.acceptRanges", laid_unicode_utf8_acceptRanges), ("unicode/utf8.first", laid_unicode_utf8_first)], narrowed := true }
def PartStampsUptoSaid : Prop := partStampsUptoRow.holds Tryz.pinned (OpenSpec.upto partStampsSpec)

/-- 'penstocklaw21.PartPlays', WHERE WHAT IT READS IS OF BULK AT MOST 1048576: true; the input reads as it did. -/
def partPlaysUptoRow : OpenClaim := { program := "ytcmjgghkmdbphaagreatdoor", sum := "ee9b83f689055d0c5f9e2ba0cb65a6b91afe74f49c0f99657d499be1d9ffb641", func := "penstock/penstocklaw21.PartPlays", spec := "partPlays", inPlace := ["maps.clone"], unfollowed := true, recurses := true, named := ["unicode/utf8.first", "unicode/utf8.acceptRanges"], plainKeys := false, apart := false, laid := [("unicode/utf8.acceptRanges", laid_unicode_utf8_acceptRanges), ("unicode/utf8.first", laid_unicode_utf8_first)], narrowed := true }
def PartPlaysUptoSaid : Prop := partPlaysUptoRow.holds Tryz.pinned (OpenSpec.upto partPlaysSpec)

/-- 'penstocklaw23.HandPlans', WHERE WHAT IT READS IS OF BULK AT MOST 1048576: true; the input reads as it did. -/
def handPlansUptoRow : OpenClaim := { program := "ytcmjgghkmdbphaagreatdoor", sum := "ee9b83f689055d0c5f9e2ba0cb65a6b91afe74f49c0f99657d499be1d9ffb641", func := "penstock/penstocklaw23.HandPlans", spec := "handPlans", inPlace := ["maps.clone"], unfollowed := true, recurses := true, named := ["unicode/utf8.first", "unicode/utf8.acceptRanges"], plainKeys := false, apart := false, laid := [("unicode/utf8.acceptRanges", laid_unicode_utf8_acceptRanges), ("unicode/utf8.first", laid_unicode_utf8_first)], narrowed := true }
def HandPlansUptoSaid : Prop := handPlansUptoRow.holds Tryz.pinned (OpenSpec.upto handPlansSpec)

/-- 'penstocklaw23.HandBack', WHERE WHAT IT READS IS OF BULK AT MOST 1048576: true; the input reads as it did. -/
def handBackUptoRow : OpenClaim := { program := "ytcmjgghkmdbphaagreatdoor", sum := "ee9b83f689055d0c5f9e2ba0cb65a6b91afe74f49c0f99657d499be1d9ffb641", func := "penstock/penstocklaw23.HandBack", spec := "handBack", inPlace := ["maps.clone"], unfollowed := true, recurses := true, named := ["unicode/utf8.first", "unicode/utf8.acceptRanges"], plainKeys := false, apart := false, laid := [("unicode/utf8.acceptRanges", laid_unicode_utf8_acceptRanges), ("unicode/utf8.first", laid_unicode_utf8_first)], narrowed := true }
def HandBackUptoSaid : Prop := handBackUptoRow.holds Tryz.pinned (OpenSpec.upto handBackSpec)

end Rows
end Go.Proofs.YtcmjgghkmdbphaaGreatDoor

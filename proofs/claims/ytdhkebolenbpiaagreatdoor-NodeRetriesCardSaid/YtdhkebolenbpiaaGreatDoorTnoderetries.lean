/- The laid variables of nodeRetries are those of the program's text: each closed fact of the tie a theorem of its own. -/
import Derived.Test.YtdhkebolenbpiaaGreatDoorRows
import Derived.LaidByTextLater
import Derived.SevenTiedAt
namespace Go.Proofs.YtdhkebolenbpiaaGreatDoor
def Tnmnoderetries (k : Nat) : String := match Rows.nodeRetriesRow.laid[k]? with | some p => p.1 | none => ""
end Go.Proofs.YtdhkebolenbpiaaGreatDoor
namespace Go.Proofs.YtdhkebolenbpiaaGreatDoor.nodeRetriesTied
open Go
theorem pin : Tryz.pinned.checked.prog.pinnedFits (Tnmnoderetries 6) = true := by kernel_rfl
theorem noOwnUnsafe : Tryz.pinned.checked.prog.headLifts.contains "ownunsafe" = false := by kernel_rfl
theorem fits : Tryz.pinned.checked.prog.listedFits [((Tnmnoderetries 0), Rows.laid_math_bits_deBruijn32tab), ((Tnmnoderetries 1), Rows.laid_math_bits_deBruijn64tab), ((Tnmnoderetries 2), Rows.laid_internal_strconv_uint64pow10), ((Tnmnoderetries 3), Rows.laid_unicode_utf8_acceptRanges), ((Tnmnoderetries 4), Rows.laid_strconv_ErrRange), ((Tnmnoderetries 5), Rows.laid_strconv_ErrSyntax), ((Tnmnoderetries 6), Rows.laid_unicode_utf8_first)] = true := by
  unfold Program.listedFits
  rw [noOwnUnsafe]
  kernel_rfl
theorem e1 : Tryz.prog.worded (varsWordLater true) = true := by kernel_rfl
theorem e2 : Tryz.prog.worded (varsWordLater !true) = false := by kernel_rfl
theorem e3 : Tryz.prog.worded rootWordLater = true := by kernel_rfl
theorem e4 : ([((Tnmnoderetries 0), Rows.laid_math_bits_deBruijn32tab), ((Tnmnoderetries 1), Rows.laid_math_bits_deBruijn64tab), ((Tnmnoderetries 2), Rows.laid_internal_strconv_uint64pow10), ((Tnmnoderetries 3), Rows.laid_unicode_utf8_acceptRanges), ((Tnmnoderetries 4), Rows.laid_strconv_ErrRange), ((Tnmnoderetries 5), Rows.laid_strconv_ErrSyntax)] : List (String × DataW Unit)).map (fun x => Tryz.prog.kindOfLater x.1) = ([.data, .data, .data, .data, .sentinel, .sentinel] : List LaidKind).map some := by kernel_rfl
theorem e5 : Tryz.prog.funcNamed "gosem.cut.vars" = some 488 := by kernel_rfl
theorem e6 : varsNamedLaterB Tryz.prog 488 [((Tnmnoderetries 0), Rows.laid_math_bits_deBruijn32tab), ((Tnmnoderetries 1), Rows.laid_math_bits_deBruijn64tab), ((Tnmnoderetries 2), Rows.laid_internal_strconv_uint64pow10), ((Tnmnoderetries 3), Rows.laid_unicode_utf8_acceptRanges), ((Tnmnoderetries 4), Rows.laid_strconv_ErrRange), ((Tnmnoderetries 5), Rows.laid_strconv_ErrSyntax)] = true := by kernel_rfl
theorem e7 : ∀ os tape, varsDone Tryz.prog 400 488 os tape = true := fun _ _ => by kernel_rfl
theorem e8 : ∀ os tape, (DataW.laidRun Tryz.prog (varsWorld Tryz.prog 400 488 os tape).memory 8 (([((Tnmnoderetries 0), Rows.laid_math_bits_deBruijn32tab), ((Tnmnoderetries 1), Rows.laid_math_bits_deBruijn64tab), ((Tnmnoderetries 2), Rows.laid_internal_strconv_uint64pow10), ((Tnmnoderetries 3), Rows.laid_unicode_utf8_acceptRanges), ((Tnmnoderetries 4), Rows.laid_strconv_ErrRange), ((Tnmnoderetries 5), Rows.laid_strconv_ErrSyntax)] : List (String × DataW Unit)).map (·.1))).map (·.1) = some [((Tnmnoderetries 0), Rows.laid_math_bits_deBruijn32tab), ((Tnmnoderetries 1), Rows.laid_math_bits_deBruijn64tab), ((Tnmnoderetries 2), Rows.laid_internal_strconv_uint64pow10), ((Tnmnoderetries 3), Rows.laid_unicode_utf8_acceptRanges), ((Tnmnoderetries 4), Rows.laid_strconv_ErrRange), ((Tnmnoderetries 5), Rows.laid_strconv_ErrSyntax)] := fun _ _ => by kernel_rfl
theorem e9 : ∀ os tape, (DataW.laidRun Tryz.prog (varsWorld Tryz.prog 400 488 os tape).memory 8 (([((Tnmnoderetries 0), Rows.laid_math_bits_deBruijn32tab), ((Tnmnoderetries 1), Rows.laid_math_bits_deBruijn64tab), ((Tnmnoderetries 2), Rows.laid_internal_strconv_uint64pow10), ((Tnmnoderetries 3), Rows.laid_unicode_utf8_acceptRanges), ((Tnmnoderetries 4), Rows.laid_strconv_ErrRange), ((Tnmnoderetries 5), Rows.laid_strconv_ErrSyntax)] : List (String × DataW Unit)).map (·.1))).map (fun x => decide x.2.Nodup && laidRowsB Tryz.prog (varsWorld Tryz.prog 400 488 os tape).memory x.2) = some true := fun _ _ => by kernel_rfl
theorem tie : Tryz.prog.laidByTextLater [((Tnmnoderetries 0), Rows.laid_math_bits_deBruijn32tab), ((Tnmnoderetries 1), Rows.laid_math_bits_deBruijn64tab), ((Tnmnoderetries 2), Rows.laid_internal_strconv_uint64pow10), ((Tnmnoderetries 3), Rows.laid_unicode_utf8_acceptRanges), ((Tnmnoderetries 4), Rows.laid_strconv_ErrRange), ((Tnmnoderetries 5), Rows.laid_strconv_ErrSyntax)] [.data, .data, .data, .data, .sentinel, .sentinel] true :=
  Program.laidByTextLater_of_run 488 400 8 e1 e2 e3 e4 e5 e6 e7 e8 e9
theorem row_tie : Rows.nodeRetriesRow.laidByTextAt .later Tryz.pinned [.data, .data, .data, .data, .sentinel, .sentinel, .pinned] true :=
  OpenClaim.laidByTextAt_pinned rfl rfl tie rfl rfl rfl rfl (fun y hy _e => by
    simp only [Rows.nodeRetriesRow, List.zip_cons_cons, List.zip_nil_right, List.mem_cons, List.mem_nil_iff, or_false] at hy
    rcases hy with rfl | rfl | rfl | rfl | rfl | rfl | rfl
    · cases _e
    · cases _e
    · cases _e
    · cases _e
    · cases _e
    · cases _e
    · exact ⟨pin, by kernel_rfl⟩) fits
end Go.Proofs.YtdhkebolenbpiaaGreatDoor.nodeRetriesTied

/- The law NodeRetries returns true for every input; its one condition is the row's own: Go's UTF-8 tables are laid. -/
import Derived.Test.YtdhkebolenbpiaaGreatDoorRows
import Derived.Test.YtdhkebolenbpiaaGreatDoorRz
import Derived.Test.YtdhkebolenbpiaaGreatDoorTab9
import Derived.Test.YtdhkebolenbpiaaGreatDoorFct
import Derived.Test.YtdhkebolenbpiaaGreatDoorLnoderetries
import Derived.Test.YtdhkebolenbpiaaGreatDoorQnoderetries
import Derived.Lib.LaidIn
import Derived.Lib.LaidU8T
import Derived.WalkKit
import Derived.ProofKit
import Derived.OpenShut
import Derived.LaidMore
import Derived.Carry
import Derived.Lay
import Derived.SevenTiedAt
import Derived.Stop.Joined
namespace Go.Proofs.YtdhkebolenbpiaaGreatDoor.nodeRetries
open Go.Shelf Go.ChangeShapes Go.WideShapes Go.ChangeAt Go.RowKit
open Go.ChangeMaps (open_string shut_string)

theorem own : ownKnob Tryz.prog.godebug = none := by kernel_rfl
theorem eq_first : (Rows.laid_unicode_utf8_first : DataW Unit) = Lib.firstData := by kernel_rfl
theorem eq_accept : (Rows.laid_unicode_utf8_acceptRanges : DataW Unit) = Lib.acceptData := by kernel_rfl
theorem tabs {W : World} (h : laidMetH Tryz.prog Rows.nodeRetriesRow.laid W) : Tabs W := by
  rw [MakeChecks.laidMetH_plain _ _ _ (by kernel_rfl)] at h
  have hF := Lib.laidMet.reads h (.tail _ (.tail _ (.tail _ (.tail _ (.tail _ (.tail _ (.head _)))))))
  have hA := Lib.laidMet.reads h (.tail _ (.tail _ (.tail _ (.head _))))
  rw [eq_first] at hF
  rw [eq_accept] at hA
  exact tabs8 hF hA

theorem shp1 (os : Os) : ((World.laidAll Tryz.prog os Rows.nodeRetriesRow.laid).forCall (fun _ _ => 0) ⟨#[], #[.string ⟨#[]⟩, .int .i64 0, .int .i64 0], []⟩).variablesZipB Tryz.prog = true := by
  rw [Lgn.all_of LaynodeRetries.LL os]
  unfold World.variablesZipB World.holding World.settled begin
  rw [Fct.waiting_eq]
  kernel_rfl
theorem shp2 (os : Os) : List.take ((begin Tryz.prog (fun _ _ => 0) default).world.heap.size - Tryz.prog.globals.size) (List.drop Tryz.prog.globals.size ((World.laidAll Tryz.prog os Rows.nodeRetriesRow.laid).forCall (fun _ _ => 0) ⟨#[], #[.string ⟨#[]⟩, .int .i64 0, .int .i64 0], []⟩).heap.toList) = List.drop Tryz.prog.globals.size (begin Tryz.prog (fun _ _ => 0) default).world.heap.toList := by
  rw [Lgn.all_of LaynodeRetries.LL os]
  unfold World.holding World.settled begin
  rw [Fct.waiting_eq]
  kernel_rfl
theorem shp (os : Os) : ((World.laidAll Tryz.prog os Rows.nodeRetriesRow.laid).forCall (fun _ _ => 0) ⟨#[], #[.string ⟨#[]⟩, .int .i64 0, .int .i64 0], []⟩).Shaped Tryz.checked.prog := World.shaped_of_ZipB (P := Tryz.prog) (shp1 os) (shp2 os)
theorem met1 (os : Os) : (World.holding Tryz.prog os ⟨#[], #[], []⟩).layFits Tryz.prog Rows.nodeRetriesRow.laid [] = true := by
  refine Lgn.fits (Lgn.at13 LaynodeRetries.LL os) (of_decide_eq_true (by kernel_rfl)) ?_
  unfold World.holding World.settled begin
  rw [Fct.waiting_eq]
  kernel_rfl
theorem met2 (os : Os) : (World.holding Tryz.prog os ⟨#[], #[], []⟩).layIfaces Tryz.prog Rows.nodeRetriesRow.laid (World.laidAll Tryz.prog os Rows.nodeRetriesRow.laid) = true := by
  refine Lgn.ifaces (Lgn.at13 LaynodeRetries.LL os) ?_ ?_
  · rw [Lgn.all_of LaynodeRetries.LL os]
    unfold World.holding World.settled begin
    rw [Fct.waiting_eq]
    kernel_rfl
  · rw [Lgn.all_of LaynodeRetries.LL os]
    unfold World.holding World.settled begin
    rw [Fct.waiting_eq]
    kernel_rfl
theorem met (os : Os) : laidMet Tryz.prog Rows.nodeRetriesRow.laid ((World.laidAll Tryz.prog os Rows.nodeRetriesRow.laid).forCall (fun _ _ => 0) ⟨#[], #[.string ⟨#[]⟩, .int .i64 0, .int .i64 0], []⟩).memory := laidMet_laidAll _ (met1 os) (met2 os)

set_option maxRecDepth 100000 in
set_option maxHeartbeats 1600000 in
theorem lifted (os : Os) (started : os.Started) (H : Type) (enc : TypeId × Value → H) :
    ReturnsInHanded {} Tryz.checked os 3 .any (fun w args => (Rows.nodeRetriesSpec.pre enc Tryz.prog Tryz.f3 Rows.nodeRetriesRow.domain false w args ∧ laidMetH Tryz.prog Rows.nodeRetriesRow.laid w) ∧ sizedMet enc Tryz.prog Tryz.f3 (OpenSpec.ofChange Rows.nodeRetriesSpec) false w args)
      (Rows.nodeRetriesSpec.post enc Tryz.prog Tryz.f3 false true false false) := by
  refine returnsInHanded_of_change_and (C := Tryz.checked) (X := fun w _ => laidMetH Tryz.prog Rows.nodeRetriesRow.laid w) (fun _ _ _ hh h => h.of_heap hh) own started (by as_aux_lemma => kernel_rfl) Tryz.func3
    (ChangeSpec.witness_shaped (enc := enc) (C := Tryz.checked) (os := os) (X := fun w _ => laidMetH Tryz.prog Rows.nodeRetriesRow.laid w) false (World.laidAll Tryz.prog os Rows.nodeRetriesRow.laid) #[.string ⟨#[]⟩, .int .i64 0, .int .i64 0] 8 (World.laidAll_os _ _ _)
      (shp os) (by as_aux_lemma => kernel_rfl) (by as_aux_lemma => kernel_rfl) (by as_aux_lemma => kernel_rfl)
      (by rw [MakeChecks.laidMetH_plain _ _ _ (by as_aux_lemma => kernel_rfl)]; exact met os)) ?_
  intro W base args ds gs before hval0 hW hc _ hL _
  have hval : ∀ (j : Nat) t v, (Tryz.f3).params[j]? = some t → args[j]? = some v → Value.okWide Tryz.prog W .any base t v := hval0
  have hW' := hW
  obtain ⟨p, q, hA0, hV, rfl, _, _⟩ := hW
  have hA : DataW.TrodAll enc Tryz.prog W 0 (fun _ => true) true (Tryz.f3).params.toList args.toList ds p := hA0
  rw [Tryz.params3] at hA hval
  obtain ⟨v0, vs0, d0, ds0, p0, q0, hargs, rfl, rfl, h0, r0⟩ := trodAll_cons hA
  obtain ⟨v1, vs1, d1, ds1, p1, q1, rfl, rfl, rfl, h1, r1⟩ := trodAll_cons r0
  obtain ⟨v2, vs2, d2, ds2, p2, q2, rfl, rfl, rfl, h2, r2⟩ := trodAll_cons r1
  obtain ⟨rfl, rfl, rfl⟩ := trodAll_nil r2
  obtain rfl : args = #[v0, v1, v2] := by cases args; simp_all
  obtain ⟨rfl, rfl⟩ := trodVars_none hV
  obtain ⟨a0, rfl, rfl, rfl, w0⟩ := open_string Tryz.underlying9 (hval 0 9 v0 rfl rfl) h0
  obtain ⟨a1, rfl, rfl, rfl, w1⟩ := open_int Tryz.underlying3 (hval 1 3 v1 rfl rfl) h1
  obtain ⟨a2, rfl, rfl, rfl, w2⟩ := open_int Tryz.underlying3 (hval 2 3 v2 rfl rfl) h2
  have htab := tabs hL
  clear hA0 hval0
  simp only [List.append_nil] at hW'
  refine (X.nodeRetries_any a0 a1 a2 W (by unfold maxLen at w0; omega) (i64_wf9 w1) (i64_wf9 w2) htab).mono fun e W' ⟨he, hb⟩ => ?_
  subst he
  exact ⟨_, rfl, _, _, _, [], [], [], hW', trodAll_cons_mk (shut_bool Tryz.underlying4 _) trodAll_mk0, (trodAll_cons_mk (shut_string Tryz.underlying9 w0) (trodAll_cons_mk (shut_int Tryz.underlying3 w1) (trodAll_cons_mk (shut_int Tryz.underlying3 w2) trodAll_mk0))), rfl, hb.frame _, fun h => by cases h⟩

set_option maxHeartbeats 6400000 in
theorem z2 : joinedFacts Tryz.pinned.checked.prog 3 Tryz.f3 Rows.nodeRetriesSpec Rows.nodeRetriesRow = true := by
  unfold joinedFacts
  simp only [Bool.and_eq_true]
  repeat' (refine And.intro ?_ ?_)
  all_goals first
    | (with_reducible exact y1)
    | (with_reducible exact y2)
    | (with_reducible exact y3)
    | (with_reducible exact y4)
    | (with_reducible exact Fct.laidOut')
    | (with_reducible exact Fct.rowed)
    | (with_reducible exact Fct.heard)
    | (with_reducible exact Fct.enter)
    | (rw [Fct.plain]; as_aux_lemma => kernel_rfl)
    | (unfold Program.readableRec; rw [Fct.book_eq]; as_aux_lemma => kernel_rfl)
    | (unfold Program.mapsRec; rw [Fct.book_eq]; as_aux_lemma => kernel_rfl)
    | (unfold Program.ifacesRec; rw [Fct.book_eq]; as_aux_lemma => kernel_rfl)
    | (unfold Program.loopsFrom; rw [Fct.book_eq]; as_aux_lemma => kernel_rfl)
    | (unfold Program.wideKeysFrom; rw [Fct.book_eq]; as_aux_lemma => kernel_rfl)
    | (unfold Program.veiledRec; rw [Fct.book_eq]; as_aux_lemma => kernel_rfl)
    | (unfold OpenClaim.veiledFits Program.veiledOwn Program.veiledRec Program.ifacesRec; rw [Fct.book_eq]; as_aux_lemma => kernel_rfl)
    | (as_aux_lemma => kernel_rfl)
theorem z3 : (Tryz.f3).isInstance Tryz.pinned.checked.prog Rows.nodeRetriesRow.origin Rows.nodeRetriesRow.targs := of_decide_eq_true (by kernel_rfl)
theorem z4 : (Tryz.f3).isWrapper Tryz.pinned.checked.prog Rows.nodeRetriesRow.wrapper Rows.nodeRetriesRow.mainSum := by unfold Func.isWrapper; first | (rw [if_pos (by decide +kernel)]; kernel_rfl) | (rw [if_neg (by decide +kernel)]; exact ⟨rfl, rfl⟩)
theorem over : Rows.NodeRetriesSaid :=
  OpenClaim.holds_of_wide 3 Tryz.f3 rfl rfl rfl rfl rfl rfl rfl ⟨rfl, rfl, rfl, rfl, rfl⟩ rfl rfl rfl rfl rfl z1 Tryz.func3 z2 z3 z4
    (fun os started H enc _ => lifted os started H enc)
end Go.Proofs.YtdhkebolenbpiaaGreatDoor.nodeRetries

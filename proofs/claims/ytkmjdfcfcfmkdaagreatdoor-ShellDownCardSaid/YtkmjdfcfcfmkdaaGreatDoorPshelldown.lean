/- The law ShellDown returns true for every input; its one condition is the row's own: Go's UTF-8 tables are laid. -/
import Derived.Test.YtkmjdfcfcfmkdaaGreatDoorRows
import Derived.Test.YtkmjdfcfcfmkdaaGreatDoorGsz
import Derived.Test.YtkmjdfcfcfmkdaaGreatDoorTab9
import Derived.Test.YtkmjdfcfcfmkdaaGreatDoorFct
import Derived.Test.YtkmjdfcfcfmkdaaGreatDoorLshelldown
import Derived.Test.YtkmjdfcfcfmkdaaGreatDoorLgn
import Derived.Test.YtkmjdfcfcfmkdaaGreatDoorQshelldown
import Derived.Lib.LaidIn
import Derived.Lib.LaidU8T
import Derived.WalkKit
import Derived.ProofKit
import Derived.OpenShut
import Derived.LaidMore
import Derived.Carry
import Derived.Lay
import Derived.SevenTiedAt
import Derived.Stop.Joined
namespace Go.Proofs.YtkmjdfcfcfmkdaaGreatDoor.shellDown
open Go.Shelf Go.ChangeShapes Go.WideShapes Go.ChangeAt Go.RowKit
open Go.ChangeMaps (open_string shut_string)

theorem own : ownKnob Tryz.prog.godebug = none := by kernel_rfl
theorem eq_first : (Rows.laid_unicode_utf8_first : DataW Unit) = Lib.firstData := by kernel_rfl
theorem eq_accept : (Rows.laid_unicode_utf8_acceptRanges : DataW Unit) = Lib.acceptData := by kernel_rfl
theorem tabs {W : World} (h : laidMetH Tryz.prog Rows.shellDownRow.laid W) : Tabs W := by
  rw [MakeChecks.laidMetH_plain _ _ _ (by kernel_rfl)] at h
  have hF := Lib.laidMet.reads h (.head _)
  have hA := Lib.laidMet.reads h (.tail _ (.head _))
  rw [eq_first] at hF
  rw [eq_accept] at hA
  exact tabs8 hF hA

theorem shp1 (os : Os) : ((World.laidAll Tryz.prog os Rows.shellDownRow.laid).forCall (fun _ _ => 0) ⟨#[], #[.int .i64 0], []⟩).variablesZipB Tryz.prog = true := by
  rw [Lgn.all_of LayshellDown.LL os]
  unfold World.variablesZipB World.holding World.settled begin
  rw [Fct.waiting_eq]
  kernel_rfl
theorem shp2 (os : Os) : List.take ((begin Tryz.prog (fun _ _ => 0) default).world.heap.size - Tryz.prog.globals.size) (List.drop Tryz.prog.globals.size ((World.laidAll Tryz.prog os Rows.shellDownRow.laid).forCall (fun _ _ => 0) ⟨#[], #[.int .i64 0], []⟩).heap.toList) = List.drop Tryz.prog.globals.size (begin Tryz.prog (fun _ _ => 0) default).world.heap.toList := by
  rw [Lgn.all_of LayshellDown.LL os]
  unfold World.holding World.settled begin
  rw [Fct.waiting_eq]
  kernel_rfl
theorem shp (os : Os) : ((World.laidAll Tryz.prog os Rows.shellDownRow.laid).forCall (fun _ _ => 0) ⟨#[], #[.int .i64 0], []⟩).Shaped Tryz.checked.prog := World.shaped_of_ZipB (P := Tryz.prog) (shp1 os) (shp2 os)
theorem met1 (os : Os) : (World.holding Tryz.prog os ⟨#[], #[], []⟩).layFits Tryz.prog Rows.shellDownRow.laid [] = true := by
  refine Lgn.fits (Lgn.at13 LayshellDown.LL os) (of_decide_eq_true (by kernel_rfl)) ?_
  unfold World.holding World.settled begin
  rw [Fct.waiting_eq]
  kernel_rfl
theorem met2 (os : Os) : (World.holding Tryz.prog os ⟨#[], #[], []⟩).layIfaces Tryz.prog Rows.shellDownRow.laid (World.laidAll Tryz.prog os Rows.shellDownRow.laid) = true := by
  refine Lgn.ifaces (Lgn.at13 LayshellDown.LL os) ?_ ?_
  · rw [Lgn.all_of LayshellDown.LL os]
    unfold World.holding World.settled begin
    rw [Fct.waiting_eq]
    kernel_rfl
  · rw [Lgn.all_of LayshellDown.LL os]
    unfold World.holding World.settled begin
    rw [Fct.waiting_eq]
    kernel_rfl
theorem met (os : Os) : laidMet Tryz.prog Rows.shellDownRow.laid ((World.laidAll Tryz.prog os Rows.shellDownRow.laid).forCall (fun _ _ => 0) ⟨#[], #[.int .i64 0], []⟩).memory := laidMet_laidAll _ (met1 os) (met2 os)

set_option maxRecDepth 100000 in
set_option maxHeartbeats 1600000 in
theorem lifted (os : Os) (started : os.Started) (H : Type) (enc : TypeId × Value → H) :
    ReturnsInHanded {} Tryz.checked os 4 .any (fun w args => (Rows.shellDownSpec.pre enc Tryz.prog Tryz.f4 Rows.shellDownRow.domain false w args ∧ laidMetH Tryz.prog Rows.shellDownRow.laid w) ∧ sizedMet enc Tryz.prog Tryz.f4 (OpenSpec.ofChange Rows.shellDownSpec) false w args)
      (Rows.shellDownSpec.post enc Tryz.prog Tryz.f4 false true false false) := by
  refine returnsInHanded_of_change_and (C := Tryz.checked) (X := fun w _ => laidMetH Tryz.prog Rows.shellDownRow.laid w) (fun _ _ _ hh h => h.of_heap hh) own started (by as_aux_lemma => kernel_rfl) Tryz.func4
    (ChangeSpec.witness_shaped (enc := enc) (C := Tryz.checked) (os := os) (X := fun w _ => laidMetH Tryz.prog Rows.shellDownRow.laid w) false (World.laidAll Tryz.prog os Rows.shellDownRow.laid) #[.int .i64 0] 8 (World.laidAll_os _ _ _)
      (shp os) (by as_aux_lemma => kernel_rfl) (by as_aux_lemma => kernel_rfl) (by as_aux_lemma => kernel_rfl)
      (by rw [MakeChecks.laidMetH_plain _ _ _ (by as_aux_lemma => kernel_rfl)]; exact met os)) ?_
  intro W base args ds gs before hval0 hW hc _ hL _
  have hval : ∀ (j : Nat) t v, (Tryz.f4).params[j]? = some t → args[j]? = some v → Value.okWide Tryz.prog W .any base t v := hval0
  have hW' := hW
  obtain ⟨p, q, hA0, hV, rfl, _, _⟩ := hW
  have hA : DataW.TrodAll enc Tryz.prog W 0 (fun _ => true) true (Tryz.f4).params.toList args.toList ds p := hA0
  rw [Tryz.params4] at hA hval
  obtain ⟨v0, vs0, d0, ds0, p0, q0, hargs, rfl, rfl, h0, r0⟩ := trodAll_cons hA
  obtain ⟨rfl, rfl, rfl⟩ := trodAll_nil r0
  obtain rfl : args = #[v0] := by cases args; simp_all
  obtain ⟨rfl, rfl⟩ := trodVars_none hV
  obtain ⟨a0, rfl, rfl, rfl, w0⟩ := open_int Tryz.underlying3 (hval 0 3 v0 rfl rfl) h0
  have htab := tabs hL
  clear hA0 hval0
  simp only [List.append_nil] at hW'
  refine (X.shellDown_any a0 W htab).mono fun e W' ⟨he, hb⟩ => ?_
  subst he
  exact ⟨_, rfl, _, _, _, [], [], [], hW', trodAll_cons_mk (shut_bool Tryz.underlying4 _) trodAll_mk0, (trodAll_cons_mk (shut_int Tryz.underlying3 w0) trodAll_mk0), rfl, hb.frame _, fun h => by cases h⟩

set_option maxHeartbeats 6400000 in
theorem z2 : joinedFacts Tryz.pinned.checked.prog 4 Tryz.f4 Rows.shellDownSpec Rows.shellDownRow = true := by
  unfold joinedFacts
  simp only [Bool.and_eq_true]
  repeat' (refine And.intro ?_ ?_)
  all_goals first
    | (with_reducible exact y1)
    | (with_reducible exact y2)
    | (with_reducible exact y3)
    | (with_reducible exact y4)
    | (with_reducible exact Fct.laidOut')
    | (with_reducible exact Fct.rowed)
    | (with_reducible exact Fct.heard)
    | (with_reducible exact Fct.enter)
    | (rw [Fct.plain]; as_aux_lemma => kernel_rfl)
    | (unfold Program.readableRec; rw [Fct.book_eq]; as_aux_lemma => kernel_rfl)
    | (unfold Program.mapsRec; rw [Fct.book_eq]; as_aux_lemma => kernel_rfl)
    | (unfold Program.ifacesRec; rw [Fct.book_eq]; as_aux_lemma => kernel_rfl)
    | (unfold Program.loopsFrom; rw [Fct.book_eq]; as_aux_lemma => kernel_rfl)
    | (unfold Program.wideKeysFrom; rw [Fct.book_eq]; as_aux_lemma => kernel_rfl)
    | (unfold Program.veiledRec; rw [Fct.book_eq]; as_aux_lemma => kernel_rfl)
    | (unfold OpenClaim.veiledFits Program.veiledOwn Program.veiledRec Program.ifacesRec; rw [Fct.book_eq]; as_aux_lemma => kernel_rfl)
    | (as_aux_lemma => kernel_rfl)
theorem z3 : (Tryz.f4).isInstance Tryz.pinned.checked.prog Rows.shellDownRow.origin Rows.shellDownRow.targs := of_decide_eq_true (by kernel_rfl)
theorem z4 : (Tryz.f4).isWrapper Tryz.pinned.checked.prog Rows.shellDownRow.wrapper Rows.shellDownRow.mainSum := by unfold Func.isWrapper; first | (rw [if_pos (by decide +kernel)]; kernel_rfl) | (rw [if_neg (by decide +kernel)]; exact ⟨rfl, rfl⟩)
theorem over : Rows.ShellDownSaid :=
  OpenClaim.holds_of_wide 4 Tryz.f4 rfl rfl rfl rfl rfl rfl rfl ⟨rfl, rfl, rfl, rfl, rfl⟩ rfl rfl rfl rfl rfl z1 Tryz.func4 z2 z3 z4
    (fun os started H enc _ => lifted os started H enc)
end Go.Proofs.YtkmjdfcfcfmkdaaGreatDoor.shellDown
